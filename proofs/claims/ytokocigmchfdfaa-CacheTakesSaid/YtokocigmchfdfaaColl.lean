/- A body that collects: 'out = append(out, x)', the slice in a box Bx of the caller's own. -/
import Derived.Test.YtokocigmchfdfaaRange
set_option linter.unusedSimpArgs false
set_option linter.unusedVariables false
namespace Go.Proofs.Ytokocigmchfdfaa
open Go.RowKit Go.Shelf

def Coll {β : Type} (enc : β → List Value) (sz : Nat) (e t : TypeId) (Bx : Nat) (w0 : World) (l : List β) (K : Nat → Prop) (W : World) : Prop :=
  ∃ v, Blk W Bx t #[v] ∧ Own enc sz w0.heap.size e W v l ∧ ¬ K Bx ∧ (∀ k, v.ownBlock = some k → ¬ K k ∧ k ≠ Bx) ∧ Below w0.heap.size w0 W ∧ w0.heap.size ≤ Bx ∧ (∀ k, K k → w0.heap.size ≤ k ∧ k < W.heap.size)

section
variable {α β : Type} {enc : β → List Value} {sz : Nat} {e t : TypeId} {Bx : Nat} {w0 : World} {f : List α → List β}

theorem Coll.calm : Calm (fun (pre : List α) K W => Coll enc sz e t Bx w0 (f pre) K W) := by
  rintro pre K K' A B ⟨v, hb, ho, hk, hv, hB, hx, hK⟩ hon hKK
  refine ⟨v, (hon.block Bx hb.lt hk).trans hb, ?_, ?_, ?_, ?_, hx, ?_⟩
  · obtain ⟨h1, h2⟩ := ho
    refine ⟨h1, ?_⟩
    rcases h2 with h2 | ⟨g, cap, cur, rfl, hg, hh, r⟩
    · exact .inl h2
    · have hlt := (Array.getElem?_eq_some_iff.1 hh).1
      exact .inr ⟨g, cap, cur, rfl, hg, (hon.block g hlt (hv g rfl).1).trans hh, r⟩
  · intro h
    rcases hKK _ h with h | h
    · exact hk h
    · have := hb.lt; omega
  · intro k e
    refine ⟨fun h => ?_, (hv k e).2⟩
    rcases hKK _ h with h | h
    · exact (hv k e).1 h
    · have := (ho.lt k e).2; omega
  · exact ⟨hon.os.trans hB.os, hon.tape.trans hB.tape, hon.output.trans hB.output, Nat.le_trans hB.size hon.size, fun k hkl => (hon.block k (Nat.lt_of_lt_of_le hkl hB.size) (fun h => by have := (hK k h).1; omega)).trans (hB.block k hkl)⟩
  · intro k h
    rcases hKK _ h with h | h
    · have := hK k h; have := hon.size; omega
    · have := hB.size; omega

theorem Coll.calmO {n₁ : Nat} (hn : w0.heap.size ≤ n₁) : CalmO n₁ (fun (pre : List α) K W => Coll enc sz e t Bx w0 (f pre) K W) := by
  rintro pre K A l o o' ⟨v, hb, ho, hk, hv, hB, hx, hK⟩ hl hlo hc
  have hne : ∀ (k : Nat) cs ty fr, A.heap[k]? = some (Obj.cells cs ty fr) → (A.putObj l o').heap[k]? = A.heap[k]? := by
    intro k cs ty fr h
    refine World.putObj_heap_other ?_
    rintro rfl
    rw [hlo] at h
    injection h with h
    subst h
    simp [Obj.isCells] at hc
  refine ⟨v, (hne _ _ _ _ hb).trans hb, ?_, hk, hv, ?_, hx, fun k h => by simpa using hK k h⟩
  · obtain ⟨h1, h2⟩ := ho
    refine ⟨h1, ?_⟩
    rcases h2 with h2 | ⟨g, cap, cur, rfl, hg, hh, r⟩
    · exact .inl h2
    · exact .inr ⟨g, cap, cur, rfl, hg, (hne _ _ _ _ hh).trans hh, r⟩
  · exact hB.grown (grownBy_putObj' A l o') hB.size (fun k e => by cases e; omega)
end

theorem own_form {β : Type} {enc : β → List Value} {sz base : Nat} {e : TypeId} {w : World} {v : Value} {l : List β} (h : Own enc sz base e w v l) (hl : 0 < l.length) :
    ∃ g cap, v = .slice (some ⟨g, 0, none⟩) l.length cap := by
  obtain ⟨g, cap, hv, _, _⟩ := World.ownsRow.form h hl
  exact ⟨g, cap, hv⟩

theorem own_snoc {β : Type} {enc : β → List Value} {sz base : Nat} {e : TypeId} {w : World} {v : Value} {l : List β} {y : β} (h : Own enc sz base e w v (l ++ [y])) :
    ∃ g cap, v = .slice (some ⟨g, 0, none⟩) (l.length + 1) cap := by
  obtain ⟨g, cap, hv⟩ := own_form h (by simp)
  exact ⟨g, cap, by rw [hv]; simp⟩

/-- behind the append and the store of its value: the round's end -/
theorem coll_step {β : Type} {enc : β → List Value} {sz : Nat} {e t : TypeId} {Bx n₀ : Nat} {w0 W w1 : World} {l : List β} {y : β} {K : Nat → Prop} {v v' : Value} {o : Obj}
    (hb : Blk W Bx t #[v]) (ho : Own enc sz w0.heap.size e W v l) (hk : ¬ K Bx) (hv : ∀ k, v.ownBlock = some k → ¬ K k ∧ k ≠ Bx) (hB : Below w0.heap.size w0 W) (hx : w0.heap.size ≤ Bx) (hK : ∀ k, K k → w0.heap.size ≤ k ∧ k < W.heap.size)
    (hn : n₀ ≤ w0.heap.size) (h1 : Own enc sz w0.heap.size e w1 v' (l ++ [y])) (hg : (W.alloc o).grownBy w1 v.ownBlock) (hat : v'.ownBlock = v.ownBlock ∨ v'.ownBlock = some (W.alloc o).heap.size) :
    KeepsOthers W (w1.setCell ⟨Bx, 0, none⟩ v') ∧ Kept n₀ K W (w1.setCell ⟨Bx, 0, none⟩ v') ∧ Coll enc sz e t Bx w0 (l ++ [y]) K (w1.setCell ⟨Bx, 0, none⟩ v') := by
  have hcells : ∀ (j : Nat) (ob : Obj), v.ownBlock = some j → (W.alloc o).heap[j]? = some ob → ob.isCells = true := by
    intro j ob e1 e2
    have hlt := (ho.lt j e1).2
    rw [Below.heap_alloc W o j hlt] at e2
    rcases ho.2 with ⟨rfl, _⟩ | ⟨g, cap, cur, rfl, _, hh, _⟩
    · simp [Value.ownBlock] at e1
    · simp [Value.ownBlock] at e1
      subst e1
      rw [hh] at e2
      injection e2 with e2
      subst e2
      rfl
  have hsz : W.heap.size < w1.heap.size := by have := hg.size; simp at this; omega
  have hsame : ∀ k, k < W.heap.size → v.ownBlock ≠ some k → k ≠ Bx → (w1.setCell ⟨Bx, 0, none⟩ v').heap[k]? = W.heap[k]? := by
    intro k h1 h2 h3
    rw [Below.heap_setCell _ _ _ _ h3, hg.block k (by simp; omega) (fun e => h2 e.symm), Below.heap_alloc W o k h1]
  have hb1 : Blk w1 Bx t #[v] := (hb.alloc o).grown hg (fun e => (hv Bx e.symm).2 rfl)
  refine ⟨((KeepsOthers.alloc W o).trans (KeepsOthers.of_grownBy hg hcells)).trans (KeepsOthers.setCell _ _ _), ⟨by simp [World.setCell]; omega, fun k hk1 hk2 => hsame k hk1 ?_ ?_⟩, v', ?_, ?_, hk, ?_, ?_, hx, ?_⟩
  · intro e1
    rcases hk2 with hk2 | hk2
    · have := (ho.lt k e1).1; omega
    · exact (hv k e1).1 hk2
  · rintro rfl
    rcases hk2 with hk2 | hk2
    · omega
    · exact hk hk2
  · have := hb1.set_ 0 v'
    simpa using this
  · refine h1.far (p := ⟨Bx, 0, none⟩) ?_ _
    intro e1
    rcases hat with e2 | e2
    · rw [e2] at e1; exact (hv Bx e1).2 rfl
    · rw [e2] at e1
      injection e1 with e1
      have := hb.lt
      simp at e1
      omega
  · intro k e1
    rcases hat with e2 | e2
    · rw [e2] at e1; exact hv k e1
    · rw [e2] at e1
      injection e1 with e1
      simp at e1
      refine ⟨fun h => ?_, ?_⟩
      · have := (hK k h).2; omega
      · rintro rfl; have := hb.lt; omega
  · refine Below.setCell ?_ hx _
    refine (hB.alloc hB.size o).grown hg (by have := hB.size; simp; omega) (fun k e1 => (ho.lt k e1).1)
  · intro k h
    have := hK k h
    refine ⟨this.1, ?_⟩
    simp [World.setCell]
    omega

/-- a box of the caller's own that the body reads -/
def Box {α : Type} (g : Nat) (t : TypeId) (cs : Array Value) (_ : List α) (K : Nat → Prop) (W : World) : Prop := Blk W g t cs ∧ ¬ K g

theorem Box.calm {α : Type} {g : Nat} {t : TypeId} {cs : Array Value} : Calm (Box (α := α) g t cs) := by
  rintro pre K K' A B ⟨hb, hk⟩ hon hKK
  refine ⟨(hon.block g hb.lt hk).trans hb, fun h => ?_⟩
  rcases hKK _ h with h | h
  · exact hk h
  · have := hb.lt; omega
theorem Box.calmO {α : Type} {g n₁ : Nat} {t : TypeId} {cs : Array Value} : CalmO n₁ (Box (α := α) g t cs) := by
  rintro pre K A l o o' ⟨hb, hk⟩ _ hlo hc
  refine ⟨(World.putObj_heap_other ?_).trans hb, hk⟩
  rintro rfl
  unfold Blk at hb
  rw [hlo] at hb
  injection hb with hb
  subst hb
  simp [Obj.isCells] at hc
theorem calm_and {α : Type} {C D : List α → (Nat → Prop) → World → Prop} (h : Calm C) (k : Calm D) : Calm (fun p K W => C p K W ∧ D p K W) :=
  fun p K K' A B hc hon hKK => ⟨h p K K' A B hc.1 hon hKK, k p K K' A B hc.2 hon hKK⟩
theorem calmO_and {α : Type} {n₁ : Nat} {C D : List α → (Nat → Prop) → World → Prop} (h : CalmO n₁ C) (k : CalmO n₁ D) : CalmO n₁ (fun p K W => C p K W ∧ D p K W) :=
  fun p K A l o o' hc h1 h2 h3 => ⟨h p K A l o o' hc.1 h1 h2 h3, k p K A l o o' hc.2 h1 h2 h3⟩

/-- rows and boxes of different element types never share a block -/
theorem own_blk_ne {β : Type} {enc : β → List Value} {sz base g : Nat} {e t : TypeId} {w : World} {v : Value} {l : List β} {cs : Array Value} (h : Own enc sz base e w v l) (hg : Blk w g t cs) (hne : e ≠ t) : v.ownBlock ≠ some g := by
  rcases h.2 with ⟨rfl, _⟩ | ⟨g', cap, cur, rfl, _, hh, _⟩
  · simp [Value.ownBlock]
  · intro he
    have : g' = g := by simpa [Value.ownBlock] using he
    subst this
    unfold Blk at hg
    rw [hh] at hg
    injection hg with hg
    injection hg with _ ht
    exact hne ht
end Go.Proofs.Ytokocigmchfdfaa
