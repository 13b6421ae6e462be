/- Engine, part A: abstract values and objects, what it means that a value stands for one, and how that is kept while the world goes on. -/
import Derived.WalkKit
import Derived.Below
import Derived.Laws.OwnMore
import Derived.Orders
import Derived.Deep.MidRow
import Derived.Deep.LoopGhost
import Derived.Maps.AppendAt
set_option linter.unusedSimpArgs false
set_option linter.unusedVariables false
namespace Go.Proofs.Ytokocigmchfdfaa
open Go.RowKit

/-- pure data: what a cell reads as, in memory that will not change -/
inductive D where
  | int (k : IntKind) (n : Int)
  | bool (b : Bool)
  | sl (rows : List (List D))

/-- an abstract value -/
inductive AV where
  | d (x : D)
  | ptr (i off : Nat)
  | ep (i sz idx k : Nat)
  | dp (r : List D)
  | row (i sz o len : Nat)
  | sub (i sz o len : Nat)
  | rowc (i sz len c : Nat)
  | nil
  | nilp
  | ifc (t : TypeId) (x : AV)
  | mp (i : Nat)
  | fn (f : FuncId) (caps : List AV)
  | agg (cs : List AV)
  | tup (vs : List AV)
  | tf (p q : Prop)
  | any

/-- an object of the frame's own -/
inductive Ob where
  | box (t : TypeId) (cs : List AV)
  | rows (t : TypeId) (sz : Nat) (rs : List (List D))

abbrev Mu := Nat → Option (Option Nat)

inductive RepD (w : World) (S : Nat → Prop) : D → Value → Prop
  | int {k n} : RepD w S (.int k n) (.int k n)
  | bool {b} : RepD w S (.bool b) (.bool b)
  | nil {A c} : RepD w S (.sl []) (.slice A 0 c)
  | sl {rows : List (List D)} {b off c sz : Nat} (f : Nat → Nat → Value) (hS : S b) (hc : rows.length ≤ c) (hsz : ∀ (i : Nat) (r : List D), rows[i]? = some r → r.length = sz)
      (hcell : ∀ (i j : Nat) (r : List D) (x : D), rows[i]? = some r → r[j]? = some x → w.cell? ⟨b, off + i * sz + j, none⟩ = some (f i j))
      (hrep : ∀ (i j : Nat) (r : List D) (x : D), rows[i]? = some r → r[j]? = some x → RepD w S x (f i j)) :
      RepD w S (.sl rows) (.slice (some ⟨b, off, none⟩) rows.length c)

inductive Rep (w : World) (S : Nat → Prop) (μ : Mu) : AV → Value → Prop
  | d {x v} : RepD w S x v → Rep w S μ (.d x) v
  | ptr {i off b} : μ i = some (some b) → Rep w S μ (.ptr i off) (.pointer (some ⟨b, off, none⟩))
  | ep {i sz idx k b} : μ i = some (some b) → Rep w S μ (.ep i sz idx k) (.pointer (some ⟨b, idx * sz + k, none⟩))
  | dp {r : List D} {b off : Nat} (f : Nat → Value) (hS : S b) (hcell : ∀ (j : Nat) (x : D), r[j]? = some x → w.cell? ⟨b, off + j, none⟩ = some (f j)) (hrep : ∀ (j : Nat) (x : D), r[j]? = some x → RepD w S x (f j)) :
      Rep w S μ (.dp r) (.pointer (some ⟨b, off, none⟩))
  | rowNil {i sz} : μ i = some none → Rep w S μ (.row i sz 0 0) (.slice none 0 0)
  | row {i sz o len b c arr t} : μ i = some (some b) → w.heap[b]? = some (.cells arr t (0, 0)) → len ≤ c → c ≤ maxLen → arr.size = (o + c) * sz →
      Rep w S μ (.row i sz o len) (.slice (some ⟨b, o * sz, none⟩) len c)
  | subNil {i sz o A c} : Rep w S μ (.sub i sz o 0) (.slice A 0 c)
  | sub {i sz o len b c} : μ i = some (some b) → len ≤ c → c ≤ maxLen → Rep w S μ (.sub i sz o len) (.slice (some ⟨b, o * sz, none⟩) len c)
  | rowc {i sz len b c arr t} : μ i = some (some b) → w.heap[b]? = some (.cells arr t (0, 0)) → len ≤ c → c ≤ maxLen → arr.size = c * sz → Rep w S μ (.rowc i sz len c) (.slice (some ⟨b, 0, none⟩) len c)
  | nil : Rep w S μ .nil (.slice none 0 0)
  | nilp : Rep w S μ .nilp (.pointer none)
  | ifc {t x v} : Rep w S μ x v → Rep w S μ (.ifc t x) (.iface t v)
  | mp {i b} : μ i = some (some b) → Rep w S μ (.mp i) (.map (some b))
  | fn {f caps} {vs : Array Value} : vs.size = caps.length → (∀ (j : Nat) (x : AV) (v : Value), caps[j]? = some x → vs[j]? = some v → Rep w S μ x v) → Rep w S μ (.fn f caps) (.func (.func f) #[] vs)
  | agg {cs} {vs : Array Value} : vs.size = cs.length → (∀ (j : Nat) (x : AV) (v : Value), cs[j]? = some x → vs[j]? = some v → Rep w S μ x v) → (∀ v ∈ vs, v.oneCell' = true) → Rep w S μ (.agg cs) (.agg vs)
  | tup {xs} {vs : Array Value} : vs.size = xs.length → (∀ (j : Nat) (x : AV) (v : Value), xs[j]? = some x → vs[j]? = some v → Rep w S μ x v) → Rep w S μ (.tup xs) (.tuple vs)
  | tf {p q b} : (b = true → p) → (b = false → q) → Rep w S μ (.tf p q) (.bool b)
  | any {v} : Rep w S μ .any v

/-- the object i as it lies in memory -/
inductive ObRep (w : World) (S : Nat → Prop) (μ : Mu) (i : Nat) : Ob → Prop
  | box {t cs b} {arr : Array Value} : μ i = some (some b) → w.heap[b]? = some (.cells arr t (0, 0)) → arr.size = cs.length →
      (∀ (j : Nat) (x : AV) (v : Value), cs[j]? = some x → arr[j]? = some v → Rep w S μ x v) → (∀ v ∈ arr, v.oneCell' = true) → ObRep w S μ i (.box t cs)
  | rowsNil {t sz} : μ i = some none → 0 < sz → ObRep w S μ i (.rows t sz [])
  | rows {t sz rs b} {arr : Array Value} : μ i = some (some b) → w.heap[b]? = some (.cells arr t (0, 0)) → 0 < sz → rs.length * sz ≤ arr.size → (∀ (i : Nat) (r : List D), rs[i]? = some r → r.length = sz) →
      (∀ (k j : Nat) (r : List D) (x : D) (v : Value), rs[k]? = some r → r[j]? = some x → arr[k * sz + j]? = some v → RepD w S x v) → ObRep w S μ i (.rows t sz rs)

/-- how the world goes on: blocks outside Wr are as before, those of Wr keep type, marks and size -/
structure Ev (w w' : World) (Wr : Nat → Prop) : Prop where
  os : w'.os = w.os
  tape : w'.tape = w.tape
  output : w'.output = w.output
  size : w.heap.size ≤ w'.heap.size
  block : ∀ b, b < w.heap.size → ¬ Wr b → w'.heap[b]? = w.heap[b]?
  shape : ∀ b arr t z, Wr b → w.heap[b]? = some (.cells arr t z) → ∃ arr', w'.heap[b]? = some (.cells arr' t z) ∧ arr'.size = arr.size

theorem heap_lt {w : World} {b : Nat} {o : Obj} (h : w.heap[b]? = some o) : b < w.heap.size := (Array.getElem?_eq_some_iff.1 h).1
theorem cell_lt {w : World} {b off : Nat} {v : Value} (h : w.cell? ⟨b, off, none⟩ = some v) : b < w.heap.size := by
  unfold World.cell? at h
  cases hb : w.heap[b]? with
  | none => simp [hb] at h
  | some o => exact heap_lt hb

theorem Ev.cell {w w' : World} {Wr : Nat → Prop} (h : Ev w w' Wr) {b off : Nat} {v : Value} (hb : ¬ Wr b) (hc : w.cell? ⟨b, off, none⟩ = some v) : w'.cell? ⟨b, off, none⟩ = some v := by
  have := h.block b (cell_lt hc) hb
  unfold World.cell? at *
  rw [this]; exact hc

theorem Ev.refl (w : World) (Wr : Nat → Prop) : Ev w w Wr := ⟨rfl, rfl, rfl, Nat.le_refl _, fun _ _ _ => rfl, fun _ arr _ _ _ h => ⟨arr, h, rfl⟩⟩
theorem Ev.arr {w w' : World} {Wr : Nat → Prop} (h : Ev w w' Wr) {b : Nat} {arr : Array Value} {t : TypeId} {z : Nat × Nat} (hb : w.heap[b]? = some (.cells arr t z)) : ∃ arr', w'.heap[b]? = some (.cells arr' t z) ∧ arr'.size = arr.size := by
  by_cases hw : Wr b
  · exact h.shape b arr t z hw hb
  · exact ⟨arr, (h.block b (heap_lt hb) hw).trans hb, rfl⟩
theorem Ev.trans {w w' w'' : World} {A : Nat → Prop} (h : Ev w w' A) (k : Ev w' w'' A) : Ev w w'' A := by
  refine ⟨k.os.trans h.os, k.tape.trans h.tape, k.output.trans h.output, Nat.le_trans h.size k.size, fun b hb hn => (k.block b (Nat.lt_of_lt_of_le hb h.size) hn).trans (h.block b hb hn), fun b arr t z hw hb => ?_⟩
  obtain ⟨arr', h1, h2⟩ := h.shape b arr t z hw hb
  obtain ⟨arr'', h3, h4⟩ := k.shape b arr' t z hw h1
  exact ⟨arr'', h3, h4.trans h2⟩
theorem Ev.mono {w w' : World} {A B : Nat → Prop} (h : Ev w w' A) (hab : ∀ b, A b → B b) : Ev w w' B :=
  ⟨h.os, h.tape, h.output, h.size, fun b hb hn => h.block b hb fun ha => hn (hab b ha), fun _ _ _ _ _ hb => h.arr hb⟩

theorem RepD.evolve {w w' : World} {S S' Wr : Nat → Prop} (h : Ev w w' Wr) (hW : ∀ b, Wr b → ¬ S b) (hS : ∀ b, S b → S' b) {x : D} {v : Value} (r : RepD w S x v) : RepD w' S' x v := by
  induction r with
  | int => exact .int
  | bool => exact .bool
  | nil => exact .nil
  | sl f hs hc hsz hcell _ ih => exact .sl f (hS _ hs) hc hsz (fun i j r x h1 h2 => h.cell (fun hw => hW _ hw hs) (hcell i j r x h1 h2)) ih

theorem Rep.evolve {w w' : World} {S S' Wr : Nat → Prop} {μ μ' : Mu} (h : Ev w w' Wr) (hW : ∀ b, Wr b → ¬ S b) (hS : ∀ b, S b → S' b) (hμ : ∀ i x, μ i = some x → μ' i = some x)
    {x : AV} {v : Value} (r : Rep w S μ x v) : Rep w' S' μ' x v := by
  induction r with
  | d r => exact .d (r.evolve h hW hS)
  | ptr h1 => exact .ptr (hμ _ _ h1)
  | ep h1 => exact .ep (hμ _ _ h1)
  | dp f hs hc hr => exact .dp f (hS _ hs) (fun j x hx => h.cell (fun hw => hW _ hw hs) (hc j x hx)) (fun j x hx => (hr j x hx).evolve h hW hS)
  | rowNil h1 => exact .rowNil (hμ _ _ h1)
  | row h1 h2 h3 h4 h5 =>
    obtain ⟨arr', h6, h7⟩ := h.arr h2
    exact .row (hμ _ _ h1) h6 h3 h4 (h7.trans h5)
  | subNil => exact .subNil
  | sub h1 h3 h4 => exact .sub (hμ _ _ h1) h3 h4
  | rowc h1 h2 h3 h4 h5 =>
    obtain ⟨arr', h6, h7⟩ := h.arr h2
    exact .rowc (hμ _ _ h1) h6 h3 h4 (h7.trans h5)
  | nil => exact .nil
  | nilp => exact .nilp
  | ifc _ ih => exact .ifc ih
  | mp h1 => exact .mp (hμ _ _ h1)
  | fn h1 _ ih => exact .fn h1 ih
  | agg h1 _ h3 ih => exact .agg h1 ih h3
  | tup h1 _ ih => exact .tup h1 ih
  | tf h1 h2 => exact .tf h1 h2
  | any => exact .any

theorem ObRep.evolve {w w' : World} {S S' Wr : Nat → Prop} {μ μ' : Mu} {i : Nat} (h : Ev w w' Wr) (hW : ∀ b, Wr b → ¬ S b) (hS : ∀ b, S b → S' b) (hμ : ∀ i x, μ i = some x → μ' i = some x)
    (hi : ∀ b, μ i = some (some b) → ¬ Wr b) {o : Ob} (r : ObRep w S μ i o) : ObRep w' S' μ' i o := by
  cases r with
  | box h1 h2 h3 h4 h5 => exact .box (hμ _ _ h1) ((h.block _ (heap_lt h2) (hi _ h1)).trans h2) h3 (fun j x v hx hv => (h4 j x v hx hv).evolve h hW hS hμ) h5
  | rowsNil h1 h2 => exact .rowsNil (hμ _ _ h1) h2
  | rows h1 h2 h3 h4 h5 h6 => exact .rows (hμ _ _ h1) ((h.block _ (heap_lt h2) (hi _ h1)).trans h2) h3 h4 h5 (fun k j r x v hr hx hv => (h6 k j r x v hr hx hv).evolve h hW hS)

/-- what a frame's run stands on: the world at entry, the memory that it may read and that does not change, the blocks that it may write though they are not its own, the number of its slots -/
structure Cx where
  P : Program
  w0 : World
  V : Nat → Prop
  Bo : Nat → Prop
  n : Nat
  k : Nat
  mu0 : Mu

def Cx.Sta (cx : Cx) (H : Nat → Option Ob) (μ : Mu) (w : World) (b : Nat) : Prop := cx.V b ∨ (cx.w0.heap.size ≤ b ∧ b < w.heap.size ∧ ¬ cx.Bo b ∧ ∀ i, H i ≠ none → μ i ≠ some (some b))

structure RR (cx : Cx) (H : Nat → Option Ob) (T : Nat → Option AV) (μ : Mu) (a : Act) (w : World) : Prop where
  n : a.tmps.size = cx.n
  dfr : a.defers = []
  tm : ∀ s x, T s = some x → ∃ v, a.tmps[s]? = some v ∧ Rep w (cx.Sta H μ w) μ x v
  ob : ∀ i o, H i = some o → ObRep w (cx.Sta H μ w) μ i o
  own : ∀ i b, H i ≠ none → μ i = some (some b) → (cx.w0.heap.size ≤ b ∨ cx.Bo b) ∧ b < w.heap.size
  inj : ∀ i j b, H i ≠ none → H j ≠ none → μ i = some (some b) → μ j = some (some b) → i = j
  fr : Ev cx.w0 w cx.Bo
  vlt : ∀ b, cx.V b → b < cx.w0.heap.size ∧ ¬ cx.Bo b
  blt : ∀ b, cx.Bo b → b < cx.w0.heap.size

section
variable {cx : Cx} {H : Nat → Option Ob} {T : Nat → Option AV} {μ : Mu} {a : Act} {w : World}

theorem RR.notV (h : RR cx H T μ a w) {i b : Nat} (hi : H i ≠ none) (hb : μ i = some (some b)) : ¬ cx.V b := by
  intro hv
  obtain ⟨h1, h2⟩ := h.vlt b hv
  rcases (h.own i b hi hb).1 with h3 | h3
  · omega
  · exact h2 h3

theorem RR.notSta (h : RR cx H T μ a w) {i b : Nat} (hi : H i ≠ none) (hb : μ i = some (some b)) : ¬ cx.Sta H μ w b := by
  rintro (hv | ⟨_, _, _, hn⟩)
  · exact h.notV hi hb hv
  · exact hn i hi hb

theorem RR.staLt (h : RR cx H T μ a w) {b : Nat} (hb : cx.Sta H μ w b) : b < w.heap.size := by
  rcases hb with hv | ⟨_, h2, _⟩
  · exact Nat.lt_of_lt_of_le (h.vlt b hv).1 h.fr.size
  · exact h2

theorem RepD.one {w : World} {S : Nat → Prop} {x : D} {v : Value} (h : RepD w S x v) : v.oneCell' = true := by cases h <;> rfl

/-- The master step: the objects 'wi' are written (or given up), the objects at ids that had no block are new, all else stays. -/
theorem RR.step (h : RR cx H T μ a w) {w' : World} {H' : Nat → Option Ob} {μ' : Mu} {Wr : Nat → Prop} (wi : Nat → Prop)
    (hev : Ev w w' Wr) (hWr : ∀ b, Wr b → ∃ i, wi i ∧ H i ≠ none ∧ μ i = some (some b))
    (hμ : ∀ i x, μ i = some x → μ' i = some x)
    (hold : ∀ i, μ i ≠ none → ¬ wi i → H' i = H i)
    (hgone : ∀ i, μ i ≠ none → wi i → H' i ≠ none → H i ≠ none)
    (hnew : ∀ i b, μ i = none → μ' i = some (some b) → (w.heap.size ≤ b ∧ b < w'.heap.size) ∨ (∃ j, H j ≠ none ∧ H' j = none ∧ μ j = some (some b)))
    (hninj : ∀ i j b, μ i = none → μ j = none → μ' i = some (some b) → μ' j = some (some b) → i = j)
    (hob : ∀ i o, (wi i ∨ μ i = none) → H' i = some o → ObRep w' (cx.Sta H' μ' w') μ' i o) :
    (∀ b, cx.Sta H μ w b → cx.Sta H' μ' w' b) ∧ RR cx H' T μ' a w' := by
  have hH : ∀ i, H' i ≠ none → μ i ≠ none → H i ≠ none := by
    intro i h1 h2
    by_cases hw : wi i
    · exact hgone i h2 hw h1
    · rw [hold i h2 hw] at h1; exact h1
  have hmu : ∀ i b, μ' i = some (some b) → μ i ≠ none → μ i = some (some b) := by
    intro i b h1 h2
    cases hm : μ i with
    | none => exact absurd hm h2
    | some x => have := hμ i x hm; rw [h1] at this; injection this with this; rw [this]
  have hS : ∀ b, cx.Sta H μ w b → cx.Sta H' μ' w' b := by
    intro b hb
    rcases hb with hv | ⟨h1, h2, h3, h4⟩
    · exact .inl hv
    · refine .inr ⟨h1, Nat.lt_of_lt_of_le h2 hev.size, h3, fun i hi he => ?_⟩
      by_cases hm : μ i = none
      · rcases hnew i b hm he with h5 | ⟨j, h5, _, h6⟩
        · omega
        · exact h4 j h5 h6
      · exact h4 i (hH i hi hm) (hmu i b he hm)
  have hW : ∀ b, Wr b → ¬ cx.Sta H μ w b := by
    intro b hb
    obtain ⟨i, _, h2, h3⟩ := hWr b hb
    exact h.notSta h2 h3
  refine ⟨hS, h.n, h.dfr, ?_, ?_, ?_, ?_, ?_, h.vlt, h.blt⟩
  · intro s x hx
    obtain ⟨v, h1, h2⟩ := h.tm s x hx
    exact ⟨v, h1, h2.evolve hev hW hS hμ⟩
  · intro i o ho
    by_cases hm : μ i = none
    · exact hob i o (.inr hm) ho
    · by_cases hw : wi i
      · exact hob i o (.inl hw) ho
      · rw [hold i hm hw] at ho
        refine (h.ob i o ho).evolve hev hW hS hμ fun b hb hWb => ?_
        obtain ⟨j, h1, h2, h3⟩ := hWr b hWb
        exact hw ((h.inj i j b (by simp [ho]) h2 hb h3) ▸ h1)
  · intro i b hi hb
    by_cases hm : μ i = none
    · rcases hnew i b hm hb with h1 | ⟨j, h1, _, h2⟩
      · exact ⟨.inl (Nat.le_trans h.fr.size h1.1), h1.2⟩
      · have h3 := h.own j b h1 h2
        exact ⟨h3.1, Nat.lt_of_lt_of_le h3.2 hev.size⟩
    · have h1 := h.own i b (hH i hi hm) (hmu i b hb hm)
      exact ⟨h1.1, Nat.lt_of_lt_of_le h1.2 hev.size⟩
  · intro i j b hi hj hbi hbj
    by_cases hmi : μ i = none
    · by_cases hmj : μ j = none
      · exact hninj i j b hmi hmj hbi hbj
      · have h2 := h.own j b (hH j hj hmj) (hmu j b hbj hmj)
        rcases hnew i b hmi hbi with h1 | ⟨q, h1, h3, h4⟩
        · omega
        · obtain rfl := h.inj q j b h1 (hH j hj hmj) h4 (hmu j b hbj hmj)
          exact absurd h3 hj
    · by_cases hmj : μ j = none
      · have h2 := h.own i b (hH i hi hmi) (hmu i b hbi hmi)
        rcases hnew j b hmj hbj with h1 | ⟨q, h1, h3, h4⟩
        · omega
        · obtain rfl := h.inj q i b h1 (hH i hi hmi) h4 (hmu i b hbi hmi)
          exact absurd h3 hi
      · exact h.inj i j b (hH i hi hmi) (hH j hj hmj) (hmu i b hbi hmi) (hmu j b hbj hmj)
  · refine ⟨hev.os.trans h.fr.os, hev.tape.trans h.fr.tape, hev.output.trans h.fr.output, Nat.le_trans h.fr.size hev.size, ?_, ?_⟩
    · intro b hb hn
      refine (hev.block b (Nat.lt_of_lt_of_le hb h.fr.size) fun hw => ?_).trans (h.fr.block b hb hn)
      obtain ⟨i, _, h2, h3⟩ := hWr b hw
      rcases (h.own i b h2 h3).1 with h4 | h4
      · omega
      · exact hn h4
    · intro b arr t z hb hh
      obtain ⟨arr', h1, h2⟩ := h.fr.shape b arr t z hb hh
      obtain ⟨arr'', h3, h4⟩ := hev.arr h1
      exact ⟨arr'', h3, h4.trans h2⟩

/-- a slot is written -/
theorem RR.put (h : RR cx H T μ a w) {d : Nat} {x : AV} {v : Value} (hd : d < cx.n) (hr : Rep w (cx.Sta H μ w) μ x v) :
    RR cx H (fun s => if s = d then some x else T s) μ (a.put (some d) v) w := by
  refine ⟨?_, h.dfr, ?_, h.ob, h.own, h.inj, h.fr, h.vlt, h.blt⟩
  · simp [Act.put, h.n]
  · intro s y hs
    by_cases hsd : s = d
    · subst hsd
      simp at hs; subst hs
      exact ⟨v, by simp [Act.put, h.n, hd], hr⟩
    · simp [hsd] at hs
      obtain ⟨u, h1, h2⟩ := h.tm s y hs
      exact ⟨u, by simp [Act.put, Array.getElem?_setIfInBounds_ne (Ne.symm hsd), h1], h2⟩

/-- what nobody remembers -/
theorem RR.forget (h : RR cx H T μ a w) {T' : Nat → Option AV} (hT : ∀ s x, T' s = some x → T s = some x) : RR cx H T' μ a w :=
  ⟨h.n, h.dfr, fun s x hx => h.tm s x (hT s x hx), h.ob, h.own, h.inj, h.fr, h.vlt, h.blt⟩
end
end Go.Proofs.Ytokocigmchfdfaa
