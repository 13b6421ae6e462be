import Derived.WalkKit
import Derived.WalkLawsBesides
import Derived.Lib.Hide
import Derived.Below
import Derived.Laws.OwnMore
import Derived.Deep.AppendLies
import Derived.Deep.Draws
import Derived.Deep.QuietTactic
import Derived.BigQuiet
import Derived.Deep.RegionHeld3
import Derived.Maps.AppendAt
import Derived.OwnWalk
import Derived.Outline
import Derived.RangeFuncNested
import Derived.RangeFuncBound
import Derived.RangeFuncCalls
import Derived.RangeFuncLeaves
import Derived.Shelf.Abstract
import Derived.Shelf.RegionOpen
import Derived.OwnWalkIn
import Derived.TacticsInMore
import Derived.LoopNIn
import Derived.LoopIn
/- Words for memory: a slice value that reads as a list of encoded elements, and how it is kept; small laws on worlds. -/
namespace Go.Proofs.YtpocnjliigjidaaGreat
open Go.RowKit
theorem b_drewN {B : Nat} {a w : World} (h : Below B a w) (n : Nat) : Below B a (w.drewN n) := ⟨h.os, h.tape, h.output, h.size, h.block⟩
theorem setCell_drewN (w : World) (a : Addr) (v : Value) (n : Nat) : (w.drewN n).setCell a v = (w.setCell a v).drewN n := rfl
theorem alloc_drewN (w : World) (o : Obj) (n : Nat) : (w.drewN n).alloc o = (w.alloc o).drewN n := rfl
attribute [go_sem] setCell_drewN alloc_drewN
theorem b_then {a b c : World} (h : Below a.heap.size a b) (k : Below b.heap.size b c) : Below a.heap.size a c :=
  h.trans (k.mono h.size)
theorem b_alloc {a b : World} (h : Below a.heap.size a b) (o : Obj) : Below a.heap.size a (b.alloc o) := h.alloc h.size o
def Blk (w : World) (g : Nat) (t : TypeId) (cs : Array Value) : Prop := w.heap[g]? = some (.cells cs t (0, 0))
section
variable {w w' : World} {g : Nat} {t : TypeId} {cs : Array Value}
theorem Blk.lt (h : Blk w g t cs) : g < w.heap.size := by
  rcases Nat.lt_or_ge g w.heap.size with hlt | hge
  · exact hlt
  · unfold Blk at h; rw [Array.getElem?_eq_none hge] at h; cases h
theorem Blk.cell (h : Blk w g t cs) (i : Nat) : w.cell? ⟨g, i, none⟩ = cs[i]? := cell_of_row w g i cs t (0, 0) h
theorem Blk.frozen (h : Blk w g t cs) (i : Nat) : w.frozen? ⟨g, i, none⟩ = false := by
  unfold Blk at h
  simp [World.frozen?, h]
theorem Blk.new (w : World) (t : TypeId) (cs : Array Value) : Blk (w.alloc (.cells cs t)) w.heap.size t cs := heap_alloc_new w _
theorem Blk.drew (h : Blk w g t cs) : Blk w.drew g t cs := h
theorem Blk.drewN (h : Blk w g t cs) (n : Nat) : Blk (w.drewN n) g t cs := h
theorem Blk.alloc (h : Blk w g t cs) (o : Obj) : Blk (w.alloc o) g t cs := (Below.heap_alloc w o g h.lt).trans h
theorem Blk.set_ (h : Blk w g t cs) (i : Nat) (u : Value) : Blk (w.setCell ⟨g, i, none⟩ u) g t (cs.setIfInBounds i u) := by
  unfold Blk at h ⊢
  simp [World.setCell, Array.getElem?_modify, h]
theorem Blk.far (h : Blk w g t cs) {p : Addr} (hp : g ≠ p.block) (u : Value) : Blk (w.setCell p u) g t cs := (Below.heap_setCell w p u g hp).trans h
theorem Blk.below {B : Nat} (h : Blk w g t cs) (hb : Below B w w') (hg : g < B) : Blk w' g t cs := (hb.block g hg).trans h
theorem Blk.call (h : Blk w g t cs) (hb : Below w.heap.size w w') : Blk w' g t cs := h.below hb h.lt
theorem Blk.grown {row : Option Nat} (h : Blk w g t cs) (hb : w.grownBy w' row) (hg : some g ≠ row) : Blk w' g t cs := (hb.block g h.lt hg).trans h
end
def Rd {α : Type} (enc : α → List Value) (sz : Nat) (w : World) (v : Value) (l : List α) : Prop :=
  ∃ A c, v = .slice A l.length c ∧ l.length ≤ c ∧
    (0 < l.length → ∃ b off, A = some ⟨b, off, none⟩ ∧ b < w.heap.size ∧ ∀ i x, l[i]? = some x → ∀ j u, (enc x)[j]? = some u → w.cell? ⟨b, off + i * sz + j, none⟩ = some u)
section
variable {α : Type} {enc : α → List Value} {sz : Nat} {w w' : World} {v : Value} {l : List α}
theorem Rd.keep (h : Rd enc sz w v l) (hb : Below w.heap.size w w') : Rd enc sz w' v l := by
  obtain ⟨A, c, rfl, hc, h⟩ := h
  refine ⟨A, c, rfl, hc, fun hn => ?_⟩
  obtain ⟨b, off, rfl, hlt, hcell⟩ := h hn
  exact ⟨b, off, rfl, Nat.lt_of_lt_of_le hlt hb.size, fun i x hx j u hu => (hb.cell (p := ⟨b, _, none⟩) hlt).trans (hcell i x hx j u hu)⟩
theorem Rd.nil : Rd enc sz w (.slice none 0 0) ([] : List α) := ⟨none, 0, rfl, Nat.le_refl _, fun h => absurd h (by simp)⟩
theorem Rd.alloc (h : Rd enc sz w v l) (o : Obj) : Rd enc sz (w.alloc o) v l := h.keep ((Below.refl _ _).alloc (Nat.le_refl _) o)
theorem Rd.drew (h : Rd enc sz w v l) : Rd enc sz w.drew v l := h
theorem Rd.drewN (h : Rd enc sz w v l) (n : Nat) : Rd enc sz (w.drewN n) v l := h
theorem Rd.form (h : Rd enc sz w v l) : ∃ A c, v = .slice A l.length c ∧ l.length ≤ c := by
  obtain ⟨A, c, hv, hc, _⟩ := h
  exact ⟨A, c, hv, hc⟩
end
theorem flat_get {α : Type} {enc : α → List Value} {sz : Nat} (hs : ∀ x, (enc x).length = sz) : ∀ (l : List α) (i : Nat) (x : α), l[i]? = some x → ∀ j u, (enc x)[j]? = some u → (l.flatMap enc)[i * sz + j]? = some u
  | [], i, x, h, _, _, _ => by simp at h
  | y :: l, 0, x, h, j, u, hu => by
    simp at h; subst h
    have : j < (enc y).length := (List.getElem?_eq_some_iff.1 hu).1
    simp [List.flatMap_cons, List.getElem?_append_left this, hu]
  | y :: l, i + 1, x, h, j, u, hu => by
    simp at h
    have e : (i + 1) * sz + j = (enc y).length + (i * sz + j) := by rw [hs, Nat.add_mul]; omega
    rw [List.flatMap_cons, e, List.getElem?_append_right (by omega)]
    simpa using flat_get hs l i x h j u hu
theorem flat_len {α : Type} {enc : α → List Value} {sz : Nat} (hs : ∀ x, (enc x).length = sz) : ∀ (l : List α), (l.flatMap enc).length = l.length * sz
  | [] => by simp
  | y :: l => by rw [List.flatMap_cons, List.length_append, flat_len hs l, hs, List.length_cons, Nat.add_mul]; omega
theorem Rd.of_own {α : Type} {enc : α → List Value} {sz : Nat} {w : World} {base : Nat} {e : TypeId} {v : Value} {l : List α} (hs : ∀ x, (enc x).length = sz)
    (h : w.ownsRow base e sz v l.length (l.flatMap enc)) : Rd enc sz w v l := by
  rcases h.2 with ⟨rfl, hn⟩ | ⟨g, cap, cur, rfl, hb, hg, hnc, _, _, _⟩
  · have : l = [] := List.eq_nil_of_length_eq_zero hn
    subst this; exact Rd.nil
  · refine ⟨_, cap, rfl, hnc, fun _ => ⟨g, 0, rfl, (Array.getElem?_eq_some_iff.1 hg).1, fun i x hx j u hu => ?_⟩⟩
    have hf := flat_get hs l i x hx j u hu
    have hlt : i * sz + j < (l.flatMap enc).length := (List.getElem?_eq_some_iff.1 hf).1
    rw [h.1] at hlt
    have := h.cellAt (i * sz + j) hlt
    rw [Nat.zero_add, this, hf]
end Go.Proofs.YtpocnjliigjidaaGreat
namespace Go.Proofs.YtpocnjliigjidaaGreat
open Go.RowKit
theorem own_call {w w' : World} {base : Nat} {e : TypeId} {size : Nat} {v : Value} {n : Nat} {xs : List Value} (h : w.ownsRow base e size v n xs) (hb : Below w.heap.size w w') : w'.ownsRow base e size v n xs :=
  h.kept (row := none) ⟨hb.os, hb.tape, hb.output, hb.size, fun k hk _ => hb.block k hk⟩ (by cases hv : v.ownBlock <;> simp)
theorem blk_new {w : World} {g : Nat} {t : TypeId} {cs : Array Value} (hg : g = w.heap.size) : Blk (w.alloc (.cells cs t)) g t cs := by subst hg; exact Blk.new w t cs
def ElemT (P : Program) (t e : TypeId) (sz bytes : Nat) : Prop :=
  P.underlying t = some (.slice e) ∧ 0 < sz ∧ ∃ i z, P.info? e = some i ∧ i.zero = some z ∧ i.size = sz ∧ i.bytes = bytes ∧ z.cells.size = sz
theorem elemT {P : Program} {t e : TypeId} {sz bytes : Nat} {z : Value} (ht : P.underlying t = some (.slice e)) (h : (P.info? e).map (fun i => (i.zero, i.size, i.bytes)) = some (some z, sz, bytes)) (hz : z.cells.size = sz) (hs : 0 < sz) : ElemT P t e sz bytes := by
  obtain ⟨i, h1, h2, h3, h4⟩ := info_parts h
  exact ⟨ht, hs, i, z, h1, h2, h3, h4, hz⟩
structure Coded {α : Type} (enc : α → List Value) (sz : Nat) : Prop where
  len : ∀ x, (enc x).length = sz
  one : ∀ x, ∀ u ∈ enc x, u.oneCell' = true
def Own {α : Type} (enc : α → List Value) (sz base : Nat) (e : TypeId) (w : World) (v : Value) (l : List α) : Prop := w.ownsRow base e sz v l.length (l.flatMap enc)
section
variable {α : Type} {enc : α → List Value} {sz base : Nat} {e : TypeId} {w w' : World} {v : Value} {l : List α}
theorem Own.nil (w : World) : Own enc sz base e w (.slice none 0 0) ([] : List α) := World.ownsRow_nil _ _ _ _
theorem Own.call (h : Own enc sz base e w v l) (hb : Below w.heap.size w w') : Own enc sz base e w' v l := own_call h hb
theorem Own.alloc (h : Own enc sz base e w v l) (o : Obj) : Own enc sz base e (w.alloc o) v l := World.ownsRow.alloc h o
theorem Own.drew (h : Own enc sz base e w v l) : Own enc sz base e w.drew v l := h
theorem Own.drewN (h : Own enc sz base e w v l) (n : Nat) : Own enc sz base e (w.drewN n) v l := h
theorem Own.lt (h : Own enc sz base e w v l) : ∀ k, v.ownBlock = some k → base ≤ k ∧ k < w.heap.size := World.ownsRow.lt h
theorem Own.rd (h : Own enc sz base e w v l) (c : Coded enc sz) : Rd enc sz w v l := Rd.of_own c.len h
theorem Own.grown {row : Option Nat} (h : Own enc sz base e w v l) (hg : w.grownBy w' row) (hne : v.ownBlock = none ∨ v.ownBlock ≠ row) : Own enc sz base e w' v l := World.ownsRow.kept h hg hne
theorem Own.far (h : Own enc sz base e w v l) {p : Addr} (hp : v.ownBlock ≠ some p.block) (u : Value) : Own enc sz base e (w.setCell p u) v l := by
  obtain ⟨h1, h2⟩ := h
  refine ⟨h1, ?_⟩
  rcases h2 with h2 | ⟨g, cap, cur, rfl, hg, hh, r⟩
  · exact Or.inl h2
  · exact Or.inr ⟨g, cap, cur, rfl, hg, by rw [Below.heap_setCell _ _ _ _ (by intro he; apply hp; simp [Value.ownBlock, he])]; exact hh, r⟩
end
section
variable {P : Program} (w : World) {α : Type} {enc : α → List Value} {sz base bytes : Nat} {e t : TypeId}
theorem run_append1 (ty : TypeId) (E : ElemT P t e sz bytes) (c : Coded enc sz) (v : Value) (l : List α) (hown : Own enc sz base e w v l)
    (b : Nat) (y : α) (hb : Blk w b e (enc y).toArray) (h63 : l.length + 1 ≤ maxLen) (hbytes : (l.length + 1) * bytes ≤ 140737488355328) (hbase : base ≤ w.heap.size) :
    ∃ v' w', (Builtin.append_ #[t, t] ty #[v, .slice (some ⟨b, 0, none⟩) 1 1]).run P w = .ok v' w' ∧ Own enc sz base e w' v' (l ++ [y]) ∧ w.grownBy w' v.ownBlock ∧
      (v'.ownBlock = v.ownBlock ∨ v'.ownBlock = some w.heap.size) := by
  obtain ⟨ht, hsz, i, z, hi, hz, hsize, hby, hzs⟩ := E
  have hnews : ∀ j u, (enc y)[j]? = some u → w.cell? ((⟨b, 0, none⟩ : Addr).add j) = some u := by
    intro j u hu
    have := World.news_of_block (w := w) (B := b) hb j u
    exact this (by simpa using hu)
  obtain ⟨v', w', hrun, h2, h3, _, h5⟩ := run_append_own_at (P := P) w base t ty e i z sz bytes ht hi hz hsize hby hzs hsz v l.length (l.flatMap enc) hown ⟨b, 0, none⟩ 1 1 (enc y) (by rw [c.len]; omega) hnews (c.one y) h63 hbytes hbase
  refine ⟨v', w', hrun, ?_, h3, h5⟩
  unfold Own
  rw [List.length_append, List.flatMap_append]
  simpa using h2
end
end Go.Proofs.YtpocnjliigjidaaGreat
namespace Go.Proofs.YtpocnjliigjidaaGreat
open Go.RowKit Go.Shelf
structure OnlyK (K : Nat → Prop) (A B : World) : Prop where
  os : B.os = A.os
  tape : B.tape = A.tape
  output : B.output = A.output
  size : A.heap.size ≤ B.heap.size
  block : ∀ k, k < A.heap.size → ¬ K k → B.heap[k]? = A.heap[k]?
theorem OnlyK.refl (K : Nat → Prop) (A : World) : OnlyK K A A := ⟨rfl, rfl, rfl, Nat.le_refl _, fun _ _ _ => rfl⟩
theorem OnlyK.drewN (K : Nat → Prop) (A : World) (n : Nat) : OnlyK K A (A.drewN n) := ⟨rfl, rfl, rfl, Nat.le_refl _, fun _ _ _ => rfl⟩
theorem OnlyK.drew (K : Nat → Prop) (A : World) : OnlyK K A A.drew := ⟨rfl, rfl, rfl, Nat.le_refl _, fun _ _ _ => rfl⟩
theorem OnlyK.alloc (K : Nat → Prop) (A : World) (o : Obj) : OnlyK K A (A.alloc o) := ⟨rfl, rfl, rfl, by simp, fun k hk _ => Below.heap_alloc A o k hk⟩
theorem OnlyK.setCell {K : Nat → Prop} {A : World} {a : Addr} (h : K a.block) (v : Value) : OnlyK K A (A.setCell a v) :=
  ⟨rfl, rfl, rfl, by simp [World.setCell], fun k _ hk => Below.heap_setCell A a v k (fun e => hk (e ▸ h))⟩
theorem OnlyK.of_below {K : Nat → Prop} {A B : World} (h : Below A.heap.size A B) : OnlyK K A B := ⟨h.os, h.tape, h.output, h.size, fun k hk _ => h.block k hk⟩
def Calm {α : Type} (C : List α → (Nat → Prop) → World → Prop) : Prop :=
  ∀ pre (K K' : Nat → Prop) A B, C pre K A → OnlyK K A B → (∀ k, K' k → K k ∨ (A.heap.size ≤ k ∧ k < B.heap.size)) → C pre K' B
def CalmO {α : Type} (n₁ : Nat) (C : List α → (Nat → Prop) → World → Prop) : Prop :=
  ∀ pre (K : Nat → Prop) A l o o', C pre K A → n₁ ≤ l → A.heap[l]? = some o → o.isCells = false → C pre K (A.putObj l o')
def Kept (n₀ : Nat) (K : Nat → Prop) (A B : World) : Prop := A.heap.size ≤ B.heap.size ∧ ∀ k, k < A.heap.size → (k < n₀ ∨ K k) → B.heap[k]? = A.heap[k]?
theorem Kept.refl (n₀ : Nat) (K : Nat → Prop) (A : World) : Kept n₀ K A A := ⟨Nat.le_refl _, fun _ _ _ => rfl⟩
theorem Kept.trans {n₀ : Nat} {K : Nat → Prop} {A B C : World} (h : Kept n₀ K A B) (k : Kept n₀ K B C) : Kept n₀ K A C :=
  ⟨Nat.le_trans h.1 k.1, fun i hi hk => (k.2 i (Nat.lt_of_lt_of_le hi h.1) hk).trans (h.2 i hi hk)⟩
theorem Kept.blk {n₀ : Nat} {K : Nat → Prop} {A B : World} {g : Nat} {t : TypeId} {cs : Array Value} (h : Kept n₀ K A B) (hb : Blk A g t cs) (hg : g < n₀ ∨ K g) : Blk B g t cs := (h.2 g hb.lt hg).trans hb
theorem wpListIn_append1 {F : Fence} {n : Nat} {P : Program} (w : World) {α : Type} {enc : α → List Value} {sz base bytes : Nat} {e t : TypeId} {ops : Array Oper} {rest : List Oper} {o : Oper} {a : Act} {Q : Exit → Act → World → Prop} (hgd : o.guard = none) (s x : Operand)
    (ho : o.op = .call { callee := .builtin .append, args := #[s, x], argTypes := #[t, t] })
    (E : ElemT P t e sz bytes) (c : Coded enc sz) (v : Value) (l : List α) (hs : a.eval s = v) (hown : Own enc sz base e w v l)
    (b : Nat) (y : α) (hx : a.eval x = .slice (some ⟨b, 0, none⟩) 1 1) (hb : Blk w b e (enc y).toArray) (h63 : l.length + 1 ≤ maxLen) (hbytes : (l.length + 1) * bytes ≤ 140737488355328) (hbase : base ≤ w.heap.size)
    (h : ∀ v' w', Own enc sz base e w' v' (l ++ [y]) → w.grownBy w' v.ownBlock → (v'.ownBlock = v.ownBlock ∨ v'.ownBlock = some w.heap.size) → wpListIn F n P ops Q rest (a.put o.dst v') w') : wpListIn F n P ops Q (o :: rest) a w := by
  refine wpListIn_plain hgd fun K hK' => ?_
  obtain ⟨v', w', hrun, r1, r2, r3⟩ := run_append1 (P := P) w o.type E c v l hown b y hb h63 hbytes hbase
  unfold Oper.wpIn
  refine ⟨?_, ?_⟩
  · simp [Oper.about, ho, resolve, Target.leads, Sem.run_pure]
  · rw [Oper.semAt_plain F _ _ (by rw [ho]; intro c hc'; cases hc')]
    simp only [execOp, ho, resolve, invoke, builtin, Sem.run_bind, Sem.run_pure, Result.andThen_ok, List.map_toArray, List.map_cons, List.map_nil, hs, hx, hrun]
    exact hK' _ _ (h v' w' r1 r2 r3)
end Go.Proofs.YtpocnjliigjidaaGreat
namespace Go.Proofs.YtpocnjliigjidaaGreat
open Go.RowKit Go.Shelf
def KeptR (R K : Nat → Prop) (A B : World) : Prop := A.heap.size ≤ B.heap.size ∧ ∀ k, k < A.heap.size → (R k ∨ K k) → B.heap[k]? = A.heap[k]?
theorem KeptR.refl (R K : Nat → Prop) (A : World) : KeptR R K A A := ⟨Nat.le_refl _, fun _ _ _ => rfl⟩
theorem KeptR.trans {R K : Nat → Prop} {A B C : World} (h : KeptR R K A B) (k : KeptR R K B C) : KeptR R K A C :=
  ⟨Nat.le_trans h.1 k.1, fun i hi hk => (k.2 i (Nat.lt_of_lt_of_le hi h.1) hk).trans (h.2 i hi hk)⟩
def roundEndR {α : Type} (R : Nat → Prop) (I : List α → (Nat → Prop) → World → Prop) (xs : List α) (K : Nat → Prop) (W : World) : Exit → Act → World → Prop
  | .normal, _, W' => KeepsOthers W W' ∧ KeptR R K W W' ∧ I xs K W'
  | _, _, _ => False
def SeqSet {α : Type} (n : Nat) (P : Program) (gf : Nat) (lb : Array Value) (encs : α → Array Value) (n₀ : Nat → Prop) (K₀ : Nat → Prop) (S : List α → Prop) (Pre : World → Prop) : Prop :=
  ∀ (l : Nat) (C : List α → (Nat → Prop) → World → Prop) (W : World), Pre W → Calm C →
    (∀ pre x K A, C pre K A → (∃ xs, S xs ∧ pre ++ [x] <+: xs) → YieldAt Fence.wide (n - 1) P l (encs x) A fun e B => e = .returned (.bool true) ∧ C (pre ++ [x]) K B ∧ KeptR n₀ K A B) →
    C [] K₀ W →
    CallsIn Fence.wide n P gf (#[.func (.yield l) #[] #[]] ++ lb) W fun e B => (∃ v, e = .returned v) ∧ ∃ xs K, S xs ∧ C xs K B
theorem wpIn_rangeSet {α : Type} {n : Nat} {P : Program} {g : Operand} {ps : Array Tmp} {assign body : Code} {Q : Exit → Act → World → Prop} {a : Act} {w : World}
    (h1 : 1 ≤ n) {gf : Nat} {lb : Array Value} (hg : a.eval g = .func (.func gf) #[] lb) (eg : ∀ args w, (callFunc gf args).run P w = .ok (.enter gf args) w)
    {encs : α → Array Value} {n₀ : Nat → Prop} {K₀ : Nat → Prop} {S : List α → Prop} {Pre : World → Prop} (hseq : SeqSet (n - 1) P gf lb encs n₀ K₀ S Pre) (hPre : ∀ W1, Below w.heap.size w W1 → Pre W1)
    (hn₀ : ∀ k, n₀ k → k < w.heap.size) (hK₀ : ∀ k, K₀ k → k < w.heap.size) (hps : ∀ x, (encs x).size = ps.size)
    (I : List α → (Nat → Prop) → World → Prop) (hI : Calm I) (hO : CalmO w.heap.size I) (h0 : I [] K₀ w) (Ax : α → (Nat → Prop) → Act → World → Prop) (hAx : ∀ x K a' A l o o', Ax x K a' A → A.heap[l]? = some o → o.isCells = false → Ax x K a' (A.putObj l o'))
    (hassign : ∀ (l : Nat) (pre : List α) (x : α) (K : Nat → Prop) (W : World) (Kf : Act → World → Prop), I pre K W → (∀ a' W', KeepsOthers W W' → KeptR n₀ K W W' → I pre K W' → Ax x K a' W' → Kf a' W') →
      assign.wpIn (Fence.wide.inRound l) (n - 1 - 1) P (Exit.then Kf (fun _ _ _ => False)) { tmps := (ps.zip (encs x)).foldl (fun t (p, v) => t.setIfInBounds p v) a.tmps, defers := [] } W)
    (hbody : ∀ (l : Nat) (pre : List α) (x : α) (K : Nat → Prop) (a' : Act) (W : World), I pre K W → Ax x K a' W → (∃ xs, S xs ∧ pre ++ [x] <+: xs) → body.wpIn (Fence.wide.inRound l) (n - 1 - 1) P (roundEndR n₀ I (pre ++ [x]) K W) a' W)
    (hdone : ∀ (D : Nat) (W : World) (K : Nat → Prop) (xs : List α), S xs → I xs K W → w.heap.size ≤ D → W.heap[D]? = some (.deferred (some [])) → Q .normal { a with defers := { target := .collected D, args := #[] } :: a.defers } W) :
    (Code.rangeFunc g ps assign body).wpIn Fence.wide n P Q a w := by
  refine wpIn_rangeFunc ?_
  intro fn hfn
  obtain ⟨rec, hrec⟩ : ∃ rec : LoopState → Loop, rec = fun st => { state := st, pending := none, fn, tmps := a.tmps, params := ps, assign, body, defers := w.heap.size } := ⟨_, rfl⟩
  obtain ⟨W1, hW1⟩ : ∃ W1, (w.alloc (.deferred (some []))).alloc (.loop (rec .ready)) = W1 := ⟨_, rfl⟩
  have hs1 : W1.heap.size = w.heap.size + 2 := by rw [← hW1]; simp
  have hL1 : W1.heap[w.heap.size + 1]? = some (.loop (rec .ready)) := by
    rw [← hW1]; have := World.alloc_heap_new (w.alloc (.deferred (some []))) (.loop (rec .ready)); rwa [World.size_alloc] at this
  have hD1 : W1.heap[w.heap.size]? = some (.deferred (some [])) := by
    rw [← hW1]; exact (Below.heap_alloc _ _ _ (by simp)).trans (World.alloc_heap_new w _)
  have hB1 : Below w.heap.size w W1 := by rw [← hW1]; exact ((Below.refl _ w).alloc (Nat.le_refl _) _).alloc (by simp) _
  have hI1 : I [] K₀ W1 := hI [] K₀ K₀ w W1 h0 (OnlyK.of_below hB1) (fun k hk => .inl hk)
  refine ⟨w.heap.size + 1, [{ target := .collected w.heap.size, args := #[] }], W1, { target := .fn (.func gf) lb, args := #[.func (.yield (w.heap.size + 1)) #[] #[]] }, W1, gf,
    #[.func (.yield (w.heap.size + 1)) #[] #[]] ++ lb, W1, ?_, ?_, ?_, ?_, fun _ => h1, ?_⟩
  · rw [← hW1, hrec]; exact run_enterLoop_outer _ _ _ _ _
  · simp only [resolve, hg]
    simp [go_sem]
  · intro f' _; trivial
  · simp [invoke, go_sem, eg]
  · refine (hseq (w.heap.size + 1)
      (fun pre K W => I pre K W ∧ (W.heap[w.heap.size + 1]? = some (.loop (rec .ready)) ∧ ¬ K (w.heap.size + 1)) ∧ (W.heap[w.heap.size]? = some (.deferred (some [])) ∧ ¬ K w.heap.size))
      W1 (hPre W1 hB1) ?_ ?_ ⟨hI1, ⟨hL1, fun h => by have := hK₀ _ h; omega⟩, ⟨hD1, fun h => by have := hK₀ _ h; omega⟩⟩).mono ?_
    · intro pre K K' A B ⟨hi, ⟨hl, hnl⟩, ⟨hd, hnd⟩⟩ hon hKK
      have ll := (Array.getElem?_eq_some_iff.1 hl).1
      refine ⟨hI pre K K' A B hi hon hKK, ⟨(hon.block _ ll hnl).trans hl, fun h => ?_⟩, ⟨(hon.block _ (by omega) hnd).trans hd, fun h => ?_⟩⟩
      · rcases hKK _ h with h | h
        · exact hnl h
        · omega
      · rcases hKK _ h with h | h
        · exact hnd h
        · omega
    · rintro pre x K A0 ⟨hi0, ⟨hl0, hnl⟩, ⟨hd0, hnd⟩⟩ hpre
      have hy := run_yield (P := P) (args := encs x) hl0 (by rw [hrec]; exact hps x)
      rw [hrec] at hy
      refine ⟨fn, _, assign, body, hy, roundIn_of_wpIn hfn (hassign _ pre x K A0 _ hi0 (fun a' A hko hkp0 hi hax => ⟨_, run_beginRound (hko.same _ _ hl0 rfl) (by rw [hrec]), ?_⟩))⟩
      have hl := hko.same _ _ hl0 rfl
      have hd := hko.same _ _ hd0 rfl
      have hlt : w.heap.size + 1 < A.heap.size := (Array.getElem?_eq_some_iff.1 hl).1
      have hl2 : (A.putObj (w.heap.size + 1) (.loop { rec .ready with state := .busy })).heap[w.heap.size + 1]? = some (.loop { rec .ready with state := .busy }) := World.putObj_heap_same hlt
      have hd2 : (A.putObj (w.heap.size + 1) (.loop { rec .ready with state := .busy })).heap[w.heap.size]? = some (.deferred (some [])) := (World.putObj_heap_other (by omega)).trans hd
      have hk2 : ∀ (V : World) (o' : Obj), KeptR n₀ K V (V.putObj (w.heap.size + 1) o') := fun V o' =>
        ⟨by simp, fun k _ hk => World.putObj_heap_other (by rintro rfl; rcases hk with hk | hk; (have := hn₀ _ hk; omega); exact hnl hk)⟩
      refine wpIn_mono (hbody _ pre x K a' _ (hO pre K A _ _ _ hi (by omega) hl rfl) (hAx x K a' A _ _ _ hax hl rfl) hpre) ?_
      rintro e a3 W3 hp
      cases e with
      | normal =>
        obtain ⟨hk3, hkp3, hi3⟩ := hp
        have hl3 := hk3.same _ _ hl2 rfl
        have hend := run_endRound (P := P) none hl3
        rw [hrec] at hend hl3
        refine ⟨_, _, hend, rfl, ⟨hO _ _ _ _ _ _ hi3 (by omega) hl3 rfl, ⟨?_, hnl⟩, ⟨?_, hnd⟩⟩, hkp0.trans (((hk2 A _).trans hkp3).trans (hk2 W3 _))⟩
        · rw [hrec]; exact World.putObj_heap_same (Array.getElem?_eq_some_iff.1 hl3).1
        · exact (World.putObj_heap_other (by omega)).trans (hk3.same _ _ hd2 rfl)
      | ret => exact hp.elim
      | exit id => exact hp.elim
      | goto t => exact hp.elim
      | panic ch => exact hp.elim
      | outgrown => exact hp.elim
    · rintro e W2 ⟨⟨v, rfl⟩, xs, K, hS, hi, ⟨hl, _⟩, ⟨hd, _⟩⟩
      have hend := run_endLoop (P := P) hl (by rw [hrec]; simp)
      rw [hrec] at hend
      exact ⟨none, _, hend, hdone _ _ K xs hS (hO _ _ _ _ _ _ hi (by omega) hl rfl) (Nat.le_refl _) ((World.putObj_heap_other (by omega)).trans hd)⟩
end Go.Proofs.YtpocnjliigjidaaGreat
