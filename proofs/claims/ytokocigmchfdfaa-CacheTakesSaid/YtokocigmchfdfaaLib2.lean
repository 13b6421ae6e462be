/- Owned lists: a slice of the call's own that holds the encoded elements of a list; append of one element. -/
import Derived.Test.YtokocigmchfdfaaLib
set_option linter.unusedSimpArgs false
set_option linter.unusedVariables false
namespace Go.Proofs.Ytokocigmchfdfaa
open Go.RowKit

theorem own_call {w w' : World} {base : Nat} {e : TypeId} {size : Nat} {v : Value} {n : Nat} {xs : List Value} (h : w.ownsRow base e size v n xs) (hb : Below w.heap.size w w') : w'.ownsRow base e size v n xs :=
  h.kept (row := none) ⟨hb.os, hb.tape, hb.output, hb.size, fun k hk _ => hb.block k hk⟩ (by cases hv : v.ownBlock <;> simp)

theorem blk_new {w : World} {g : Nat} {t : TypeId} {cs : Array Value} (hg : g = w.heap.size) : Blk (w.alloc (.cells cs t)) g t cs := by subst hg; exact Blk.new w t cs

/-- the number in a cell, for a measure -/
def cellN (w : World) (g i : Nat) : Nat := match w.cell? ⟨g, i, none⟩ with | some (.int _ q) => q.toNat | _ => 0
theorem cellN_blk {w : World} {g i : Nat} {t : TypeId} {cs : Array Value} {k : IntKind} {q : Int} (h : Blk w g t cs) (hc : cs[i]? = some (.int k q)) : cellN w g i = q.toNat := by
  unfold cellN; rw [h.cell, hc]

/-- slice type t of element type e: sz cells, so many bytes each -/
def ElemT (P : Program) (t e : TypeId) (sz bytes : Nat) : Prop :=
  P.underlying t = some (.slice e) ∧ 0 < sz ∧ ∃ i z, P.info? e = some i ∧ i.zero = some z ∧ i.size = sz ∧ i.bytes = bytes ∧ z.cells.size = sz

theorem elemT {P : Program} {t e : TypeId} {sz bytes : Nat} {z : Value} (ht : P.underlying t = some (.slice e)) (h : (P.info? e).map (fun i => (i.zero, i.size, i.bytes)) = some (some z, sz, bytes)) (hz : z.cells.size = sz) (hs : 0 < sz) : ElemT P t e sz bytes := by
  obtain ⟨i, h1, h2, h3, h4⟩ := info_parts h
  exact ⟨ht, hs, i, z, h1, h2, h3, h4, hz⟩

/-- how an element lies in cells -/
structure Coded {α : Type} (enc : α → List Value) (sz : Nat) : Prop where
  len : ∀ x, (enc x).length = sz
  one : ∀ x, ∀ u ∈ enc x, u.oneCell' = true

def Own {α : Type} (enc : α → List Value) (sz base : Nat) (e : TypeId) (w : World) (v : Value) (l : List α) : Prop := w.ownsRow base e sz v l.length (l.flatMap enc)

section
variable {α : Type} {enc : α → List Value} {sz base : Nat} {e : TypeId} {w w' : World} {v : Value} {l : List α}
theorem Own.nil (w : World) : Own enc sz base e w (.slice none 0 0) ([] : List α) := World.ownsRow_nil _ _ _ _
theorem Own.call (h : Own enc sz base e w v l) (hb : Below w.heap.size w w') : Own enc sz base e w' v l := own_call h hb
theorem Own.alloc (h : Own enc sz base e w v l) (o : Obj) : Own enc sz base e (w.alloc o) v l := World.ownsRow.alloc h o
theorem Own.drew (h : Own enc sz base e w v l) : Own enc sz base e w.drew v l := h
theorem Own.drewN (h : Own enc sz base e w v l) (n : Nat) : Own enc sz base e (w.drewN n) v l := h
theorem Own.lt (h : Own enc sz base e w v l) : ∀ k, v.ownBlock = some k → base ≤ k ∧ k < w.heap.size := World.ownsRow.lt h
theorem Own.rd (h : Own enc sz base e w v l) (c : Coded enc sz) : Rd enc sz w v l := Rd.of_own c.len h
theorem Own.grown {row : Option Nat} (h : Own enc sz base e w v l) (hg : w.grownBy w' row) (hne : v.ownBlock = none ∨ v.ownBlock ≠ row) : Own enc sz base e w' v l := World.ownsRow.kept h hg hne
theorem Own.far (h : Own enc sz base e w v l) {p : Addr} (hp : v.ownBlock ≠ some p.block) (u : Value) : Own enc sz base e (w.setCell p u) v l := by
  obtain ⟨h1, h2⟩ := h
  refine ⟨h1, ?_⟩
  rcases h2 with h2 | ⟨g, cap, cur, rfl, hg, hh, r⟩
  · exact Or.inl h2
  · exact Or.inr ⟨g, cap, cur, rfl, hg, by rw [Below.heap_setCell _ _ _ _ (by intro he; apply hp; simp [Value.ownBlock, he])]; exact hh, r⟩
/-- a box of the call's own, made since the row was last known to lie below it, is not the row -/
theorem Own.ne_of {wo : World} (h : Own enc sz base e wo v l) {g : Nat} (hg : wo.heap.size ≤ g) : v.ownBlock ≠ some g := fun e => by have := (h.lt g e).2; omega
end

section
variable {P : Program} (w : World) {α : Type} {enc : α → List Value} {sz base bytes : Nat} {e t : TypeId}

theorem run_append1 (ty : TypeId) (E : ElemT P t e sz bytes) (c : Coded enc sz) (v : Value) (l : List α) (hown : Own enc sz base e w v l)
    (b : Nat) (y : α) (hb : Blk w b e (enc y).toArray) (h63 : l.length + 1 ≤ maxLen) (hbytes : (l.length + 1) * bytes ≤ 140737488355328) (hbase : base ≤ w.heap.size) :
    ∃ v' w', (Builtin.append_ #[t, t] ty #[v, .slice (some ⟨b, 0, none⟩) 1 1]).run P w = .ok v' w' ∧ Own enc sz base e w' v' (l ++ [y]) ∧ w.grownBy w' v.ownBlock ∧
      (v'.ownBlock = v.ownBlock ∨ v'.ownBlock = some w.heap.size) := by
  obtain ⟨ht, hsz, i, z, hi, hz, hsize, hby, hzs⟩ := E
  have hnews : ∀ j u, (enc y)[j]? = some u → w.cell? ((⟨b, 0, none⟩ : Addr).add j) = some u := by
    intro j u hu
    have := World.news_of_block (w := w) (B := b) hb j u
    exact this (by simpa using hu)
  obtain ⟨v', w', hrun, h2, h3, _, h5⟩ := run_append_own_at (P := P) w base t ty e i z sz bytes ht hi hz hsize hby hzs hsz v l.length (l.flatMap enc) hown ⟨b, 0, none⟩ 1 1 (enc y) (by rw [c.len]; omega) hnews (c.one y) h63 hbytes hbase
  refine ⟨v', w', hrun, ?_, h3, h5⟩
  unfold Own
  rw [List.length_append, List.flatMap_append]
  simpa using h2

theorem wp_append1 {o : Oper} {a : Act} {K : Act → World → Prop} {Q : Exit → Act → World → Prop} (s x : Operand)
    (ho : o.op = .call { callee := .builtin .append, args := #[s, x], argTypes := #[t, t] })
    (E : ElemT P t e sz bytes) (c : Coded enc sz) (v : Value) (l : List α) (hs : a.eval s = v) (hown : Own enc sz base e w v l)
    (b : Nat) (y : α) (hx : a.eval x = .slice (some ⟨b, 0, none⟩) 1 1) (hb : Blk w b e (enc y).toArray) (h63 : l.length + 1 ≤ maxLen) (hbytes : (l.length + 1) * bytes ≤ 140737488355328) (hbase : base ≤ w.heap.size)
    (h : ∀ v' w', Own enc sz base e w' v' (l ++ [y]) → w.grownBy w' v.ownBlock → (v'.ownBlock = v.ownBlock ∨ v'.ownBlock = some w.heap.size) → K (a.put o.dst v') w') : o.wp P a w K Q := by
  obtain ⟨v', w', hrun, h2, h3, h4⟩ := run_append1 (P := P) w o.type E c v l hown b y hb h63 hbytes hbase
  unfold Oper.wp execOp
  simp only [ho, resolve, invoke, builtin, Sem.run_bind, Sem.run_pure, Result.andThen_ok, List.map_toArray, List.map_cons, List.map_nil, hs, hx, hrun]
  exact h v' w' h2 h3 h4

theorem wpList_append1 {ops : Array Oper} {rest : List Oper} {o : Oper} {a : Act} {Q : Exit → Act → World → Prop} (hgd : o.guard = none) (s x : Operand)
    (ho : o.op = .call { callee := .builtin .append, args := #[s, x], argTypes := #[t, t] })
    (E : ElemT P t e sz bytes) (c : Coded enc sz) (v : Value) (l : List α) (hs : a.eval s = v) (hown : Own enc sz base e w v l)
    (b : Nat) (y : α) (hx : a.eval x = .slice (some ⟨b, 0, none⟩) 1 1) (hb : Blk w b e (enc y).toArray) (h63 : l.length + 1 ≤ maxLen) (hbytes : (l.length + 1) * bytes ≤ 140737488355328) (hbase : base ≤ w.heap.size)
    (h : ∀ v' w', Own enc sz base e w' v' (l ++ [y]) → w.grownBy w' v.ownBlock → (v'.ownBlock = v.ownBlock ∨ v'.ownBlock = some w.heap.size) → wpList P ops Q rest (a.put o.dst v') w') : wpList P ops Q (o :: rest) a w :=
  wpList_plain hgd fun _ hK => wp_append1 w s x ho E c v l hs hown b y hx hb h63 hbytes hbase fun v' w' h2 h3 h4 => hK _ _ (h v' w' h2 h3 h4)

theorem step_append1 {ops : Array Oper} {o : Oper} {a : Act} {K : Act → World → Prop} {Q : Exit → Act → World → Prop} {F : Prop} (hgd : o.guard = none) (s x : Operand)
    (ho : o.op = .call { callee := .builtin .append, args := #[s, x], argTypes := #[t, t] })
    (E : ElemT P t e sz bytes) (c : Coded enc sz) (v : Value) (l : List α) (hs : a.eval s = v) (hown : Own enc sz base e w v l)
    (b : Nat) (y : α) (hx : a.eval x = .slice (some ⟨b, 0, none⟩) 1 1) (hb : Blk w b e (enc y).toArray) (h63 : l.length + 1 ≤ maxLen) (hbytes : (l.length + 1) * bytes ≤ 140737488355328) (hbase : base ≤ w.heap.size)
    (h : ∀ v' w', Own enc sz base e w' v' (l ++ [y]) → w.grownBy w' v.ownBlock → (v'.ownBlock = v.ownBlock ∨ v'.ownBlock = some w.heap.size) → K (a.put o.dst v') w') :
    if Region.wanted o (yielded ops a.tmps) = true then Oper.wp P o a w K Q else F := by
  have hw : Region.wanted o (yielded ops a.tmps) = true := by simp [Region.wanted, hgd]
  rw [if_pos hw]
  exact wp_append1 w s x ho E c v l hs hown b y hx hb h63 hbytes hbase h
end

/-- a block written out reads as a list -/
theorem rd_blk {α : Type} {enc : α → List Value} {sz : Nat} {w : World} {g n : Nat} {e : TypeId} {cs : Array Value} {l : List α} (c : Coded enc sz) (h : Blk w g e cs) (hl : cs.toList = l.flatMap enc) (hn : n = l.length) :
    Rd enc sz w (.slice (some ⟨g, 0, none⟩) n n) l := by
  subst hn
  refine ⟨_, _, rfl, Nat.le_refl _, fun _ => ⟨g, 0, rfl, h.lt, fun i x hx j u hu => ?_⟩⟩
  have hf := flat_get c.len l i x hx j u hu
  rw [h.cell, Nat.zero_add, ← hf, ← hl]
  simp

end Go.Proofs.Ytokocigmchfdfaa
