/- A loop over an iterator that hands out one of a set of lists, and runs to its end. -/
import Derived.Test.YtnclclpfmldocaaGreatRange
namespace Go.Proofs.YtnclclpfmldocaaGreat
open Go.RowKit Go.Shelf

/-- what a round keeps for the iterator: the blocks that R or K names -/
def KeptR (R K : Nat → Prop) (A B : World) : Prop := A.heap.size ≤ B.heap.size ∧ ∀ k, k < A.heap.size → (R k ∨ K k) → B.heap[k]? = A.heap[k]?
theorem KeptR.refl (R K : Nat → Prop) (A : World) : KeptR R K A A := ⟨Nat.le_refl _, fun _ _ _ => rfl⟩
theorem KeptR.trans {R K : Nat → Prop} {A B C : World} (h : KeptR R K A B) (k : KeptR R K B C) : KeptR R K A C :=
  ⟨Nat.le_trans h.1 k.1, fun i hi hk => (k.2 i (Nat.lt_of_lt_of_le hi h.1) hk).trans (h.2 i hi hk)⟩
/-- how a round's body ends -/
def roundEndR {α : Type} (R : Nat → Prop) (I : List α → (Nat → Prop) → World → Prop) (xs : List α) (K : Nat → Prop) (W : World) : Exit → Act → World → Prop
  | .normal, _, W' => KeepsOthers W W' ∧ KeptR R K W W' ∧ I xs K W'
  | _, _, _ => False
/-- The function gf, called at yield and at lb, hands out some list of S, whatever the caller keeps. -/
def SeqSet {α : Type} (n : Nat) (P : Program) (gf : Nat) (lb : Array Value) (encs : α → Array Value) (n₀ : Nat → Prop) (K₀ : Nat → Prop) (S : List α → Prop) (Pre : World → Prop) : Prop :=
  ∀ (l : Nat) (C : List α → (Nat → Prop) → World → Prop) (W : World), Pre W → Calm C →
    (∀ pre x K A, C pre K A → (∃ xs, S xs ∧ pre ++ [x] <+: xs) → YieldAt Fence.wide (n - 1) P l (encs x) A fun e B => e = .returned (.bool true) ∧ C (pre ++ [x]) K B ∧ KeptR n₀ K A B) →
    C [] K₀ W →
    CallsIn Fence.wide n P gf (#[.func (.yield l) #[] #[]] ++ lb) W fun e B => (∃ v, e = .returned v) ∧ ∃ xs K, S xs ∧ C xs K B

theorem wpIn_rangeSet {α : Type} {n : Nat} {P : Program} {g : Operand} {ps : Array Tmp} {assign body : Code} {Q : Exit → Act → World → Prop} {a : Act} {w : World}
    (h1 : 1 ≤ n) {gf : Nat} {lb : Array Value} (hg : a.eval g = .func (.func gf) #[] lb) (eg : ∀ args w, (callFunc gf args).run P w = .ok (.enter gf args) w)
    {encs : α → Array Value} {n₀ : Nat → Prop} {K₀ : Nat → Prop} {S : List α → Prop} {Pre : World → Prop} (hseq : SeqSet (n - 1) P gf lb encs n₀ K₀ S Pre) (hPre : ∀ W1, Below w.heap.size w W1 → Pre W1)
    (hn₀ : ∀ k, n₀ k → k < w.heap.size) (hK₀ : ∀ k, K₀ k → k < w.heap.size) (hps : ∀ x, (encs x).size = ps.size)
    (I : List α → (Nat → Prop) → World → Prop) (hI : Calm I) (hO : CalmO w.heap.size I) (h0 : I [] K₀ w) (Ax : α → (Nat → Prop) → Act → World → Prop) (hAx : ∀ x K a' A l o o', Ax x K a' A → A.heap[l]? = some o → o.isCells = false → Ax x K a' (A.putObj l o'))
    (hassign : ∀ (l : Nat) (pre : List α) (x : α) (K : Nat → Prop) (W : World) (Kf : Act → World → Prop), I pre K W → (∀ a' W', KeepsOthers W W' → KeptR n₀ K W W' → I pre K W' → Ax x K a' W' → Kf a' W') →
      assign.wpIn (Fence.wide.inRound l) (n - 1 - 1) P (Exit.then Kf (fun _ _ _ => False)) { tmps := (ps.zip (encs x)).foldl (fun t (p, v) => t.setIfInBounds p v) a.tmps, defers := [] } W)
    (hbody : ∀ (l : Nat) (pre : List α) (x : α) (K : Nat → Prop) (a' : Act) (W : World), I pre K W → Ax x K a' W → (∃ xs, S xs ∧ pre ++ [x] <+: xs) → body.wpIn (Fence.wide.inRound l) (n - 1 - 1) P (roundEndR n₀ I (pre ++ [x]) K W) a' W)
    (hdone : ∀ (D : Nat) (W : World) (K : Nat → Prop) (xs : List α), S xs → I xs K W → w.heap.size ≤ D → W.heap[D]? = some (.deferred (some [])) → Q .normal { a with defers := { target := .collected D, args := #[] } :: a.defers } W) :
    (Code.rangeFunc g ps assign body).wpIn Fence.wide n P Q a w := by
  refine wpIn_rangeFunc ?_
  intro fn hfn
  obtain ⟨rec, hrec⟩ : ∃ rec : LoopState → Loop, rec = fun st => { state := st, pending := none, fn, tmps := a.tmps, params := ps, assign, body, defers := w.heap.size } := ⟨_, rfl⟩
  obtain ⟨W1, hW1⟩ : ∃ W1, (w.alloc (.deferred (some []))).alloc (.loop (rec .ready)) = W1 := ⟨_, rfl⟩
  have hs1 : W1.heap.size = w.heap.size + 2 := by rw [← hW1]; simp
  have hL1 : W1.heap[w.heap.size + 1]? = some (.loop (rec .ready)) := by
    rw [← hW1]; have := World.alloc_heap_new (w.alloc (.deferred (some []))) (.loop (rec .ready)); rwa [World.size_alloc] at this
  have hD1 : W1.heap[w.heap.size]? = some (.deferred (some [])) := by
    rw [← hW1]; exact (Below.heap_alloc _ _ _ (by simp)).trans (World.alloc_heap_new w _)
  have hB1 : Below w.heap.size w W1 := by rw [← hW1]; exact ((Below.refl _ w).alloc (Nat.le_refl _) _).alloc (by simp) _
  have hI1 : I [] K₀ W1 := hI [] K₀ K₀ w W1 h0 (OnlyK.of_below hB1) (fun k hk => .inl hk)
  refine ⟨w.heap.size + 1, [{ target := .collected w.heap.size, args := #[] }], W1, { target := .fn (.func gf) lb, args := #[.func (.yield (w.heap.size + 1)) #[] #[]] }, W1, gf,
    #[.func (.yield (w.heap.size + 1)) #[] #[]] ++ lb, W1, ?_, ?_, ?_, ?_, fun _ => h1, ?_⟩
  · rw [← hW1, hrec]; exact run_enterLoop_outer _ _ _ _ _
  · simp only [resolve, hg]
    simp [go_sem]
  · intro f' _; trivial
  · simp [invoke, go_sem, eg]
  · refine (hseq (w.heap.size + 1)
      (fun pre K W => I pre K W ∧ (W.heap[w.heap.size + 1]? = some (.loop (rec .ready)) ∧ ¬ K (w.heap.size + 1)) ∧ (W.heap[w.heap.size]? = some (.deferred (some [])) ∧ ¬ K w.heap.size))
      W1 (hPre W1 hB1) ?_ ?_ ⟨hI1, ⟨hL1, fun h => by have := hK₀ _ h; omega⟩, ⟨hD1, fun h => by have := hK₀ _ h; omega⟩⟩).mono ?_
    · intro pre K K' A B ⟨hi, ⟨hl, hnl⟩, ⟨hd, hnd⟩⟩ hon hKK
      have ll := (Array.getElem?_eq_some_iff.1 hl).1
      refine ⟨hI pre K K' A B hi hon hKK, ⟨(hon.block _ ll hnl).trans hl, fun h => ?_⟩, ⟨(hon.block _ (by omega) hnd).trans hd, fun h => ?_⟩⟩
      · rcases hKK _ h with h | h
        · exact hnl h
        · omega
      · rcases hKK _ h with h | h
        · exact hnd h
        · omega
    · rintro pre x K A0 ⟨hi0, ⟨hl0, hnl⟩, ⟨hd0, hnd⟩⟩ hpre
      have hy := run_yield (P := P) (args := encs x) hl0 (by rw [hrec]; exact hps x)
      rw [hrec] at hy
      refine ⟨fn, _, assign, body, hy, roundIn_of_wpIn hfn (hassign _ pre x K A0 _ hi0 (fun a' A hko hkp0 hi hax => ⟨_, run_beginRound (hko.same _ _ hl0 rfl) (by rw [hrec]), ?_⟩))⟩
      have hl := hko.same _ _ hl0 rfl
      have hd := hko.same _ _ hd0 rfl
      have hlt : w.heap.size + 1 < A.heap.size := (Array.getElem?_eq_some_iff.1 hl).1
      have hl2 : (A.putObj (w.heap.size + 1) (.loop { rec .ready with state := .busy })).heap[w.heap.size + 1]? = some (.loop { rec .ready with state := .busy }) := World.putObj_heap_same hlt
      have hd2 : (A.putObj (w.heap.size + 1) (.loop { rec .ready with state := .busy })).heap[w.heap.size]? = some (.deferred (some [])) := (World.putObj_heap_other (by omega)).trans hd
      have hk2 : ∀ (V : World) (o' : Obj), KeptR n₀ K V (V.putObj (w.heap.size + 1) o') := fun V o' =>
        ⟨by simp, fun k _ hk => World.putObj_heap_other (by rintro rfl; rcases hk with hk | hk; (have := hn₀ _ hk; omega); exact hnl hk)⟩
      refine wpIn_mono (hbody _ pre x K a' _ (hO pre K A _ _ _ hi (by omega) hl rfl) (hAx x K a' A _ _ _ hax hl rfl) hpre) ?_
      rintro e a3 W3 hp
      cases e with
      | normal =>
        obtain ⟨hk3, hkp3, hi3⟩ := hp
        have hl3 := hk3.same _ _ hl2 rfl
        have hend := run_endRound (P := P) none hl3
        rw [hrec] at hend hl3
        refine ⟨_, _, hend, rfl, ⟨hO _ _ _ _ _ _ hi3 (by omega) hl3 rfl, ⟨?_, hnl⟩, ⟨?_, hnd⟩⟩, hkp0.trans (((hk2 A _).trans hkp3).trans (hk2 W3 _))⟩
        · rw [hrec]; exact World.putObj_heap_same (Array.getElem?_eq_some_iff.1 hl3).1
        · exact (World.putObj_heap_other (by omega)).trans (hk3.same _ _ hd2 rfl)
      | ret => exact hp.elim
      | exit id => exact hp.elim
      | goto t => exact hp.elim
      | panic ch => exact hp.elim
      | outgrown => exact hp.elim
    · rintro e W2 ⟨⟨v, rfl⟩, xs, K, hS, hi, ⟨hl, _⟩, ⟨hd, _⟩⟩
      have hend := run_endLoop (P := P) hl (by rw [hrec]; simp)
      rw [hrec] at hend
      exact ⟨none, _, hend, hdone _ _ K xs hS (hO _ _ _ _ _ _ hi (by omega) hl rfl) (Nat.le_refl _) ((World.putObj_heap_other (by omega)).trans hd)⟩

end Go.Proofs.YtnclclpfmldocaaGreat
