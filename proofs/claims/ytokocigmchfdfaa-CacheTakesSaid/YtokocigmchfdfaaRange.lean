/- A loop over an iterator that runs to its end: one law for the caller, one form of the iterator's contract. The iterator may keep blocks of its own (captured variables, boxes): K says which; a round keeps them. -/
import Derived.RangeFuncNested
import Derived.RangeFuncBound
import Derived.RangeFuncCalls
import Derived.RangeFuncLeaves
import Derived.Shelf.Abstract
import Derived.Shelf.RegionOpen
import Derived.OwnWalkIn
import Derived.TacticsInMore
import Derived.LoopNIn
import Derived.LoopIn
import Derived.Test.YtokocigmchfdfaaLib2
set_option linter.unusedSimpArgs false
set_option linter.unusedVariables false
namespace Go.Proofs.Ytokocigmchfdfaa
open Go.RowKit Go.Shelf

/-- from A to B only blocks in K, and new ones, have turned -/
structure OnlyK (K : Nat → Prop) (A B : World) : Prop where
  os : B.os = A.os
  tape : B.tape = A.tape
  output : B.output = A.output
  size : A.heap.size ≤ B.heap.size
  block : ∀ k, k < A.heap.size → ¬ K k → B.heap[k]? = A.heap[k]?

theorem OnlyK.refl (K : Nat → Prop) (A : World) : OnlyK K A A := ⟨rfl, rfl, rfl, Nat.le_refl _, fun _ _ _ => rfl⟩
theorem OnlyK.drewN (K : Nat → Prop) (A : World) (n : Nat) : OnlyK K A (A.drewN n) := ⟨rfl, rfl, rfl, Nat.le_refl _, fun _ _ _ => rfl⟩
theorem OnlyK.drew (K : Nat → Prop) (A : World) : OnlyK K A A.drew := ⟨rfl, rfl, rfl, Nat.le_refl _, fun _ _ _ => rfl⟩
theorem OnlyK.alloc (K : Nat → Prop) (A : World) (o : Obj) : OnlyK K A (A.alloc o) := ⟨rfl, rfl, rfl, by simp, fun k hk _ => Below.heap_alloc A o k hk⟩
theorem OnlyK.setCell {K : Nat → Prop} {A : World} {a : Addr} (h : K a.block) (v : Value) : OnlyK K A (A.setCell a v) :=
  ⟨rfl, rfl, rfl, by simp [World.setCell], fun k _ hk => Below.heap_setCell A a v k (fun e => hk (e ▸ h))⟩
theorem OnlyK.of_below {K : Nat → Prop} {A B : World} (h : Below A.heap.size A B) : OnlyK K A B := ⟨h.os, h.tape, h.output, h.size, fun k hk _ => h.block k hk⟩

/-- what the caller knows is kept by the iterator's own steps: K may lose blocks and gain new ones -/
def Calm {α : Type} (C : List α → (Nat → Prop) → World → Prop) : Prop :=
  ∀ pre (K K' : Nat → Prop) A B, C pre K A → OnlyK K A B → (∀ k, K' k → K k ∨ (A.heap.size ≤ k ∧ k < B.heap.size)) → C pre K' B
/-- .. and by turns of blocks from n₁ on that are no cells (the loop's own book-keeping) -/
def CalmO {α : Type} (n₁ : Nat) (C : List α → (Nat → Prop) → World → Prop) : Prop :=
  ∀ pre (K : Nat → Prop) A l o o', C pre K A → n₁ ≤ l → A.heap[l]? = some o → o.isCells = false → C pre K (A.putObj l o')

/-- what a round keeps for the iterator -/
def Kept (n₀ : Nat) (K : Nat → Prop) (A B : World) : Prop := A.heap.size ≤ B.heap.size ∧ ∀ k, k < A.heap.size → (k < n₀ ∨ K k) → B.heap[k]? = A.heap[k]?

theorem Kept.refl (n₀ : Nat) (K : Nat → Prop) (A : World) : Kept n₀ K A A := ⟨Nat.le_refl _, fun _ _ _ => rfl⟩
theorem Kept.trans {n₀ : Nat} {K : Nat → Prop} {A B C : World} (h : Kept n₀ K A B) (k : Kept n₀ K B C) : Kept n₀ K A C :=
  ⟨Nat.le_trans h.1 k.1, fun i hi hk => (k.2 i (Nat.lt_of_lt_of_le hi h.1) hk).trans (h.2 i hi hk)⟩
theorem Kept.blk {n₀ : Nat} {K : Nat → Prop} {A B : World} {g : Nat} {t : TypeId} {cs : Array Value} (h : Kept n₀ K A B) (hb : Blk A g t cs) (hg : g < n₀ ∨ K g) : Blk B g t cs := (h.2 g hb.lt hg).trans hb

/-- The function gf, called at yield and at lb, hands out xs, whatever the caller keeps. -/
def SeqAll {α : Type} (n : Nat) (P : Program) (gf : Nat) (lb : Array Value) (encs : α → Array Value) (n₀ : Nat) (K₀ : Nat → Prop) (xs : List α) (Pre : World → Prop) : Prop :=
  ∀ (l : Nat) (C : List α → (Nat → Prop) → World → Prop) (W : World), Pre W → Calm C →
    (∀ pre x K A, C pre K A → pre ++ [x] <+: xs → YieldAt Fence.wide (n - 1) P l (encs x) A fun e B => e = .returned (.bool true) ∧ C (pre ++ [x]) K B ∧ Kept n₀ K A B) →
    C [] K₀ W →
    CallsIn Fence.wide n P gf (#[.func (.yield l) #[] #[]] ++ lb) W fun e B => (∃ v, e = .returned v) ∧ ∃ K, C xs K B

/-- how a round's body ends -/
def roundEnd {α : Type} (n₀ : Nat) (I : List α → (Nat → Prop) → World → Prop) (xs : List α) (K : Nat → Prop) (W : World) : Exit → Act → World → Prop
  | .normal, _, W' => KeepsOthers W W' ∧ Kept n₀ K W W' ∧ I xs K W'
  | _, _, _ => False

theorem wpIn_rangeAll {α : Type} {n : Nat} {P : Program} {g : Operand} {ps : Array Tmp} {assign body : Code} {Q : Exit → Act → World → Prop} {a : Act} {w : World}
    (h1 : 1 ≤ n) {gf : Nat} {lb : Array Value} (hg : a.eval g = .func (.func gf) #[] lb) (eg : ∀ args w, (callFunc gf args).run P w = .ok (.enter gf args) w)
    {encs : α → Array Value} {n₀ : Nat} {K₀ : Nat → Prop} {xs : List α} {Pre : World → Prop} (hseq : SeqAll (n - 1) P gf lb encs n₀ K₀ xs Pre) (hPre : ∀ W1, Below w.heap.size w W1 → Pre W1)
    (hn₀ : n₀ ≤ w.heap.size) (hK₀ : ∀ k, K₀ k → k < w.heap.size) (hps : ∀ x, (encs x).size = ps.size)
    (I : List α → (Nat → Prop) → World → Prop) (hI : Calm I) (hO : CalmO w.heap.size I) (h0 : I [] K₀ w) (a₁ : α → Act)
    (hassign : ∀ (l : Nat) (x : α) (W : World) (K : Act → World → Prop), K (a₁ x) W →
      assign.wpIn (Fence.wide.inRound l) (n - 1 - 1) P (Exit.then K (fun _ _ _ => False)) { tmps := (ps.zip (encs x)).foldl (fun t (p, v) => t.setIfInBounds p v) a.tmps, defers := [] } W)
    (hbody : ∀ (l : Nat) (pre : List α) (x : α) (K : Nat → Prop) (W : World), I pre K W → pre ++ [x] <+: xs → body.wpIn (Fence.wide.inRound l) (n - 1 - 1) P (roundEnd n₀ I (pre ++ [x]) K W) (a₁ x) W)
    (hdone : ∀ (D : Nat) (W : World) (K : Nat → Prop), I xs K W → w.heap.size ≤ D → W.heap[D]? = some (.deferred (some [])) → Q .normal { a with defers := { target := .collected D, args := #[] } :: a.defers } W) :
    (Code.rangeFunc g ps assign body).wpIn Fence.wide n P Q a w := by
  refine wpIn_rangeFunc ?_
  intro fn hfn
  obtain ⟨rec, hrec⟩ : ∃ rec : LoopState → Loop, rec = fun st => { state := st, pending := none, fn, tmps := a.tmps, params := ps, assign, body, defers := w.heap.size } := ⟨_, rfl⟩
  obtain ⟨W1, hW1⟩ : ∃ W1, (w.alloc (.deferred (some []))).alloc (.loop (rec .ready)) = W1 := ⟨_, rfl⟩
  have hs1 : W1.heap.size = w.heap.size + 2 := by rw [← hW1]; simp
  have hL1 : W1.heap[w.heap.size + 1]? = some (.loop (rec .ready)) := by
    rw [← hW1]; have := World.alloc_heap_new (w.alloc (.deferred (some []))) (.loop (rec .ready)); rwa [World.size_alloc] at this
  have hD1 : W1.heap[w.heap.size]? = some (.deferred (some [])) := by
    rw [← hW1]; exact (Below.heap_alloc _ _ _ (by simp)).trans (World.alloc_heap_new w _)
  have hB1 : Below w.heap.size w W1 := by rw [← hW1]; exact ((Below.refl _ w).alloc (Nat.le_refl _) _).alloc (by simp) _
  have hI1 : I [] K₀ W1 := hI [] K₀ K₀ w W1 h0 (OnlyK.of_below hB1) (fun k hk => .inl hk)
  refine ⟨w.heap.size + 1, [{ target := .collected w.heap.size, args := #[] }], W1, { target := .fn (.func gf) lb, args := #[.func (.yield (w.heap.size + 1)) #[] #[]] }, W1, gf,
    #[.func (.yield (w.heap.size + 1)) #[] #[]] ++ lb, W1, ?_, ?_, ?_, ?_, fun _ => h1, ?_⟩
  · rw [← hW1, hrec]; exact run_enterLoop_outer _ _ _ _ _
  · simp only [resolve, hg]
    simp [go_sem]
  · intro f' _; trivial
  · simp [invoke, go_sem, eg]
  · refine (hseq (w.heap.size + 1)
      (fun pre K W => I pre K W ∧ (W.heap[w.heap.size + 1]? = some (.loop (rec .ready)) ∧ ¬ K (w.heap.size + 1)) ∧ (W.heap[w.heap.size]? = some (.deferred (some [])) ∧ ¬ K w.heap.size))
      W1 (hPre W1 hB1) ?_ ?_ ⟨hI1, ⟨hL1, fun h => by have := hK₀ _ h; omega⟩, ⟨hD1, fun h => by have := hK₀ _ h; omega⟩⟩).mono ?_
    · intro pre K K' A B ⟨hi, ⟨hl, hnl⟩, ⟨hd, hnd⟩⟩ hon hKK
      have ll := (Array.getElem?_eq_some_iff.1 hl).1
      refine ⟨hI pre K K' A B hi hon hKK, ⟨(hon.block _ ll hnl).trans hl, fun h => ?_⟩, ⟨(hon.block _ (by omega) hnd).trans hd, fun h => ?_⟩⟩
      · rcases hKK _ h with h | h
        · exact hnl h
        · omega
      · rcases hKK _ h with h | h
        · exact hnd h
        · omega
    · rintro pre x K A ⟨hi, ⟨hl, hnl⟩, ⟨hd, hnd⟩⟩ hpre
      have hlt : w.heap.size + 1 < A.heap.size := (Array.getElem?_eq_some_iff.1 hl).1
      have hy := run_yield (P := P) (args := encs x) hl (by rw [hrec]; exact hps x)
      rw [hrec] at hy
      refine ⟨fn, _, assign, body, hy, roundIn_of_wpIn hfn (hassign _ x A _ ⟨_, run_beginRound hl (by rw [hrec]), ?_⟩)⟩
      have hl2 : (A.putObj (w.heap.size + 1) (.loop { rec .ready with state := .busy })).heap[w.heap.size + 1]? = some (.loop { rec .ready with state := .busy }) := World.putObj_heap_same hlt
      have hd2 : (A.putObj (w.heap.size + 1) (.loop { rec .ready with state := .busy })).heap[w.heap.size]? = some (.deferred (some [])) := (World.putObj_heap_other (by omega)).trans hd
      have hk2 : ∀ (V : World) (o' : Obj), Kept n₀ K V (V.putObj (w.heap.size + 1) o') := fun V o' =>
        ⟨by simp, fun k _ hk => World.putObj_heap_other (by rintro rfl; rcases hk with hk | hk; omega; exact hnl hk)⟩
      refine wpIn_mono (hbody _ pre x K _ (hO pre K A _ _ _ hi (by omega) hl rfl) hpre) ?_
      rintro e a3 W3 hp
      cases e with
      | normal =>
        obtain ⟨hk3, hkp3, hi3⟩ := hp
        have hl3 := hk3.same _ _ hl2 rfl
        have hend := run_endRound (P := P) none hl3
        rw [hrec] at hend hl3
        refine ⟨_, _, hend, rfl, ⟨hO _ _ _ _ _ _ hi3 (by omega) hl3 rfl, ⟨?_, hnl⟩, ⟨?_, hnd⟩⟩, ((hk2 A _).trans hkp3).trans (hk2 W3 _)⟩
        · rw [hrec]; exact World.putObj_heap_same (Array.getElem?_eq_some_iff.1 hl3).1
        · exact (World.putObj_heap_other (by omega)).trans (hk3.same _ _ hd2 rfl)
      | ret => exact hp.elim
      | exit id => exact hp.elim
      | goto t => exact hp.elim
      | panic ch => exact hp.elim
      | outgrown => exact hp.elim
    · rintro e W2 ⟨⟨v, rfl⟩, K, hi, ⟨hl, _⟩, ⟨hd, _⟩⟩
      have hend := run_endLoop (P := P) hl (by rw [hrec]; simp)
      rw [hrec] at hend
      exact ⟨none, _, hend, hdone _ _ K (hO _ _ _ _ _ _ hi (by omega) hl rfl) (Nat.le_refl _) ((World.putObj_heap_other (by omega)).trans hd)⟩

theorem wpListIn_append1 {F : Fence} {n : Nat} {P : Program} (w : World) {α : Type} {enc : α → List Value} {sz base bytes : Nat} {e t : TypeId} {ops : Array Oper} {rest : List Oper} {o : Oper} {a : Act} {Q : Exit → Act → World → Prop} (hgd : o.guard = none) (s x : Operand)
    (ho : o.op = .call { callee := .builtin .append, args := #[s, x], argTypes := #[t, t] })
    (E : ElemT P t e sz bytes) (c : Coded enc sz) (v : Value) (l : List α) (hs : a.eval s = v) (hown : Own enc sz base e w v l)
    (b : Nat) (y : α) (hx : a.eval x = .slice (some ⟨b, 0, none⟩) 1 1) (hb : Blk w b e (enc y).toArray) (h63 : l.length + 1 ≤ maxLen) (hbytes : (l.length + 1) * bytes ≤ 140737488355328) (hbase : base ≤ w.heap.size)
    (h : ∀ v' w', Own enc sz base e w' v' (l ++ [y]) → w.grownBy w' v.ownBlock → (v'.ownBlock = v.ownBlock ∨ v'.ownBlock = some w.heap.size) → wpListIn F n P ops Q rest (a.put o.dst v') w') : wpListIn F n P ops Q (o :: rest) a w := by
  refine wpListIn_plain hgd fun K hK' => ?_
  obtain ⟨v', w', hrun, r1, r2, r3⟩ := run_append1 (P := P) w o.type E c v l hown b y hb h63 hbytes hbase
  unfold Oper.wpIn
  refine ⟨?_, ?_⟩
  · simp [Oper.about, ho, resolve, Target.leads, Sem.run_pure]
  · rw [Oper.semAt_plain F _ _ (by rw [ho]; intro c hc'; cases hc')]
    simp only [execOp, ho, resolve, invoke, builtin, Sem.run_bind, Sem.run_pure, Result.andThen_ok, List.map_toArray, List.map_cons, List.map_nil, hs, hx, hrun]
    exact hK' _ _ (h v' w' r1 r2 r3)
end Go.Proofs.Ytokocigmchfdfaa
