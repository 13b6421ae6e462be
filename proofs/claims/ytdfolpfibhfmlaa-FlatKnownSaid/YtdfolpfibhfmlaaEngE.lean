import Derived.WalkKit
import Derived.Below
import Derived.Laws.OwnMore
import Derived.Orders
import Derived.Deep.MidRow
import Derived.Deep.LoopGhost
import Derived.Maps.AppendAt
import Derived.Laws.CopyRow
import Derived.Laws.Slices

/- Engine, part A: abstract values and objects, what it means that a value stands for one, and how that is kept while the world goes on. -/
namespace Go.Proofs.Ytdfolpfibhfmlaa
set_option linter.unusedSimpArgs false
set_option linter.unusedVariables false
open Go.RowKit

/-- pure data: what a cell reads as, in memory that will not change -/
inductive D where
  | int (k : IntKind) (n : Int)
  | bool (b : Bool)
  | str (s : ByteArray)
  | sl (rows : List (List D))

/-- an abstract value -/
inductive AV where
  | d (x : D)
  | ptr (i off : Nat)
  | ep (i sz idx k : Nat)
  | dp (r : List D)
  | row (i sz o len : Nat)
  | sub (i sz o len : Nat)
  | rowc (i sz len c : Nat)
  | nil
  | nilp
  | ifc (t : TypeId) (x : AV)
  | mp (i : Nat)
  | fn (f : FuncId) (caps : List AV)
  | agg (cs : List AV)
  | tup (vs : List AV)
  | tf (p q : Prop)
  | any

/-- an object of the frame's own -/
inductive Ob where
  | box (t : TypeId) (cs : List AV)
  | rows (t : TypeId) (sz : Nat) (rs : List (List D))
  | map (es : List MapEntry) (clock : Nat)
  | iter (m since : Nat) (seen : List Nat) (stepped : Nat)
  | siter (s : ByteArray) (pos : Nat)

abbrev Mu := Nat → Option (Option Nat)

inductive RepD (w : World) (S : Nat → Prop) : D → Value → Prop
  | int {k n} : RepD w S (.int k n) (.int k n)
  | bool {b} : RepD w S (.bool b) (.bool b)
  | str {s} : RepD w S (.str s) (.string s)
  | nil {A c} : RepD w S (.sl []) (.slice A 0 c)
  | sl {rows : List (List D)} {b off c sz : Nat} (f : Nat → Nat → Value) (hS : S b) (hc : rows.length ≤ c) (hsz : ∀ (i : Nat) (r : List D), rows[i]? = some r → r.length = sz)
      (hcell : ∀ (i j : Nat) (r : List D) (x : D), rows[i]? = some r → r[j]? = some x → w.cell? ⟨b, off + i * sz + j, none⟩ = some (f i j))
      (hrep : ∀ (i j : Nat) (r : List D) (x : D), rows[i]? = some r → r[j]? = some x → RepD w S x (f i j)) :
      RepD w S (.sl rows) (.slice (some ⟨b, off, none⟩) rows.length c)

inductive Rep (w : World) (S : Nat → Prop) (μ : Mu) : AV → Value → Prop
  | d {x v} : RepD w S x v → Rep w S μ (.d x) v
  | ptr {i off b} : μ i = some (some b) → Rep w S μ (.ptr i off) (.pointer (some ⟨b, off, none⟩))
  | ep {i sz idx k b} : μ i = some (some b) → Rep w S μ (.ep i sz idx k) (.pointer (some ⟨b, idx * sz + k, none⟩))
  | dp {r : List D} {b off : Nat} (f : Nat → Value) (hS : S b) (hcell : ∀ (j : Nat) (x : D), r[j]? = some x → w.cell? ⟨b, off + j, none⟩ = some (f j)) (hrep : ∀ (j : Nat) (x : D), r[j]? = some x → RepD w S x (f j)) :
      Rep w S μ (.dp r) (.pointer (some ⟨b, off, none⟩))
  | rowNil {i sz} : μ i = some none → Rep w S μ (.row i sz 0 0) (.slice none 0 0)
  | row {i sz o len b c arr t} : μ i = some (some b) → w.heap[b]? = some (.cells arr t (0, 0)) → len ≤ c → c ≤ maxLen → arr.size = (o + c) * sz →
      Rep w S μ (.row i sz o len) (.slice (some ⟨b, o * sz, none⟩) len c)
  | subNil {i sz o A c} : Rep w S μ (.sub i sz o 0) (.slice A 0 c)
  | sub {i sz o len b c} : μ i = some (some b) → len ≤ c → c ≤ maxLen → Rep w S μ (.sub i sz o len) (.slice (some ⟨b, o * sz, none⟩) len c)
  | rowc {i sz len b c arr t} : μ i = some (some b) → w.heap[b]? = some (.cells arr t (0, 0)) → len ≤ c → c ≤ maxLen → arr.size = c * sz → Rep w S μ (.rowc i sz len c) (.slice (some ⟨b, 0, none⟩) len c)
  | nil : Rep w S μ .nil (.slice none 0 0)
  | nilp : Rep w S μ .nilp (.pointer none)
  | ifc {t x v} : Rep w S μ x v → Rep w S μ (.ifc t x) (.iface t v)
  | mp {i b} : μ i = some (some b) → Rep w S μ (.mp i) (.map (some b))
  | fn {f caps} {vs : Array Value} : vs.size = caps.length → (∀ (j : Nat) (x : AV) (v : Value), caps[j]? = some x → vs[j]? = some v → Rep w S μ x v) → Rep w S μ (.fn f caps) (.func (.func f) #[] vs)
  | agg {cs} {vs : Array Value} : vs.size = cs.length → (∀ (j : Nat) (x : AV) (v : Value), cs[j]? = some x → vs[j]? = some v → Rep w S μ x v) → (∀ v ∈ vs, v.oneCell' = true) → Rep w S μ (.agg cs) (.agg vs)
  | tup {xs} {vs : Array Value} : vs.size = xs.length → (∀ (j : Nat) (x : AV) (v : Value), xs[j]? = some x → vs[j]? = some v → Rep w S μ x v) → Rep w S μ (.tup xs) (.tuple vs)
  | tf {p q b} : (b = true → p) → (b = false → q) → Rep w S μ (.tf p q) (.bool b)
  | any {v} : Rep w S μ .any v

/-- the object i as it lies in memory -/
inductive ObRep (w : World) (S : Nat → Prop) (μ : Mu) (i : Nat) : Ob → Prop
  | box {t cs b} {arr : Array Value} : μ i = some (some b) → w.heap[b]? = some (.cells arr t (0, 0)) → arr.size = cs.length →
      (∀ (j : Nat) (x : AV) (v : Value), cs[j]? = some x → arr[j]? = some v → Rep w S μ x v) → (∀ v ∈ arr, v.oneCell' = true) → ObRep w S μ i (.box t cs)
  | rowsNil {t sz} : μ i = some none → 0 < sz → ObRep w S μ i (.rows t sz [])
  | rows {t sz rs b} {arr : Array Value} : μ i = some (some b) → w.heap[b]? = some (.cells arr t (0, 0)) → 0 < sz → rs.length * sz ≤ arr.size → (∀ (i : Nat) (r : List D), rs[i]? = some r → r.length = sz) →
      (∀ (k j : Nat) (r : List D) (x : D) (v : Value), rs[k]? = some r → r[j]? = some x → arr[k * sz + j]? = some v → RepD w S x v) → ObRep w S μ i (.rows t sz rs)
  | map {es clock b} : μ i = some (some b) → w.heap[b]? = some (.map (List.toArray es) clock) → ObRep w S μ i (.map es clock)
  | iter {m bm since seen stepped b} : μ i = some (some b) → μ m = some (some bm) → w.heap[b]? = some (.mapIter (some bm) since (List.toArray seen) stepped) → ObRep w S μ i (.iter m since seen stepped)
  | siter {s pos b} : μ i = some (some b) → w.heap[b]? = some (.stringIter s pos) → ObRep w S μ i (.siter s pos)

/-- how the world goes on: blocks outside Wr are as before, those of Wr keep type, marks and size -/
structure Ev (w w' : World) (Wr : Nat → Prop) : Prop where
  os : w'.os = w.os
  tape : w'.tape = w.tape
  output : w'.output = w.output
  size : w.heap.size ≤ w'.heap.size
  block : ∀ b, b < w.heap.size → ¬ Wr b → w'.heap[b]? = w.heap[b]?
  shape : ∀ b arr t z, Wr b → w.heap[b]? = some (.cells arr t z) → ∃ arr', w'.heap[b]? = some (.cells arr' t z) ∧ arr'.size = arr.size

theorem heap_lt {w : World} {b : Nat} {o : Obj} (h : w.heap[b]? = some o) : b < w.heap.size := (Array.getElem?_eq_some_iff.1 h).1
theorem cell_lt {w : World} {b off : Nat} {v : Value} (h : w.cell? ⟨b, off, none⟩ = some v) : b < w.heap.size := by
  unfold World.cell? at h
  cases hb : w.heap[b]? with
  | none => simp [hb] at h
  | some o => exact heap_lt hb

theorem Ev.cell {w w' : World} {Wr : Nat → Prop} (h : Ev w w' Wr) {b off : Nat} {v : Value} (hb : ¬ Wr b) (hc : w.cell? ⟨b, off, none⟩ = some v) : w'.cell? ⟨b, off, none⟩ = some v := by
  have := h.block b (cell_lt hc) hb
  unfold World.cell? at *
  rw [this]; exact hc

theorem Ev.refl (w : World) (Wr : Nat → Prop) : Ev w w Wr := ⟨rfl, rfl, rfl, Nat.le_refl _, fun _ _ _ => rfl, fun _ arr _ _ _ h => ⟨arr, h, rfl⟩⟩
theorem Ev.arr {w w' : World} {Wr : Nat → Prop} (h : Ev w w' Wr) {b : Nat} {arr : Array Value} {t : TypeId} {z : Nat × Nat} (hb : w.heap[b]? = some (.cells arr t z)) : ∃ arr', w'.heap[b]? = some (.cells arr' t z) ∧ arr'.size = arr.size := by
  by_cases hw : Wr b
  · exact h.shape b arr t z hw hb
  · exact ⟨arr, (h.block b (heap_lt hb) hw).trans hb, rfl⟩
theorem Ev.trans {w w' w'' : World} {A : Nat → Prop} (h : Ev w w' A) (k : Ev w' w'' A) : Ev w w'' A := by
  refine ⟨k.os.trans h.os, k.tape.trans h.tape, k.output.trans h.output, Nat.le_trans h.size k.size, fun b hb hn => (k.block b (Nat.lt_of_lt_of_le hb h.size) hn).trans (h.block b hb hn), fun b arr t z hw hb => ?_⟩
  obtain ⟨arr', h1, h2⟩ := h.shape b arr t z hw hb
  obtain ⟨arr'', h3, h4⟩ := k.shape b arr' t z hw h1
  exact ⟨arr'', h3, h4.trans h2⟩
theorem Ev.mono {w w' : World} {A B : Nat → Prop} (h : Ev w w' A) (hab : ∀ b, A b → B b) : Ev w w' B :=
  ⟨h.os, h.tape, h.output, h.size, fun b hb hn => h.block b hb fun ha => hn (hab b ha), fun _ _ _ _ _ hb => h.arr hb⟩

theorem RepD.evolve {w w' : World} {S S' Wr : Nat → Prop} (h : Ev w w' Wr) (hW : ∀ b, Wr b → ¬ S b) (hS : ∀ b, S b → S' b) {x : D} {v : Value} (r : RepD w S x v) : RepD w' S' x v := by
  induction r with
  | int => exact .int
  | bool => exact .bool
  | str => exact .str
  | nil => exact .nil
  | sl f hs hc hsz hcell _ ih => exact .sl f (hS _ hs) hc hsz (fun i j r x h1 h2 => h.cell (fun hw => hW _ hw hs) (hcell i j r x h1 h2)) ih

theorem Rep.evolve {w w' : World} {S S' Wr : Nat → Prop} {μ μ' : Mu} (h : Ev w w' Wr) (hW : ∀ b, Wr b → ¬ S b) (hS : ∀ b, S b → S' b) (hμ : ∀ i x, μ i = some x → μ' i = some x)
    {x : AV} {v : Value} (r : Rep w S μ x v) : Rep w' S' μ' x v := by
  induction r with
  | d r => exact .d (r.evolve h hW hS)
  | ptr h1 => exact .ptr (hμ _ _ h1)
  | ep h1 => exact .ep (hμ _ _ h1)
  | dp f hs hc hr => exact .dp f (hS _ hs) (fun j x hx => h.cell (fun hw => hW _ hw hs) (hc j x hx)) (fun j x hx => (hr j x hx).evolve h hW hS)
  | rowNil h1 => exact .rowNil (hμ _ _ h1)
  | row h1 h2 h3 h4 h5 =>
    obtain ⟨arr', h6, h7⟩ := h.arr h2
    exact .row (hμ _ _ h1) h6 h3 h4 (h7.trans h5)
  | subNil => exact .subNil
  | sub h1 h3 h4 => exact .sub (hμ _ _ h1) h3 h4
  | rowc h1 h2 h3 h4 h5 =>
    obtain ⟨arr', h6, h7⟩ := h.arr h2
    exact .rowc (hμ _ _ h1) h6 h3 h4 (h7.trans h5)
  | nil => exact .nil
  | nilp => exact .nilp
  | ifc _ ih => exact .ifc ih
  | mp h1 => exact .mp (hμ _ _ h1)
  | fn h1 _ ih => exact .fn h1 ih
  | agg h1 _ h3 ih => exact .agg h1 ih h3
  | tup h1 _ ih => exact .tup h1 ih
  | tf h1 h2 => exact .tf h1 h2
  | any => exact .any

theorem ObRep.evolve {w w' : World} {S S' Wr : Nat → Prop} {μ μ' : Mu} {i : Nat} (h : Ev w w' Wr) (hW : ∀ b, Wr b → ¬ S b) (hS : ∀ b, S b → S' b) (hμ : ∀ i x, μ i = some x → μ' i = some x)
    (hi : ∀ b, μ i = some (some b) → ¬ Wr b) {o : Ob} (r : ObRep w S μ i o) : ObRep w' S' μ' i o := by
  cases r with
  | box h1 h2 h3 h4 h5 => exact .box (hμ _ _ h1) ((h.block _ (heap_lt h2) (hi _ h1)).trans h2) h3 (fun j x v hx hv => (h4 j x v hx hv).evolve h hW hS hμ) h5
  | rowsNil h1 h2 => exact .rowsNil (hμ _ _ h1) h2
  | rows h1 h2 h3 h4 h5 h6 => exact .rows (hμ _ _ h1) ((h.block _ (heap_lt h2) (hi _ h1)).trans h2) h3 h4 h5 (fun k j r x v hr hx hv => (h6 k j r x v hr hx hv).evolve h hW hS)
  | map h1 h2 => exact .map (hμ _ _ h1) ((h.block _ (heap_lt h2) (hi _ h1)).trans h2)
  | iter h1 h2 h3 => exact .iter (hμ _ _ h1) (hμ _ _ h2) ((h.block _ (heap_lt h3) (hi _ h1)).trans h3)
  | siter h1 h2 => exact .siter (hμ _ _ h1) ((h.block _ (heap_lt h2) (hi _ h1)).trans h2)

/-- what a frame's run stands on: the world at entry, the memory that it may read and that does not change, the blocks that it may write though they are not its own, the number of its slots -/
structure Cx where
  P : Program
  w0 : World
  V : Nat → Prop
  Bo : Nat → Prop
  n : Nat
  k : Nat
  mu0 : Mu

def Cx.Sta (cx : Cx) (H : Nat → Option Ob) (μ : Mu) (w : World) (b : Nat) : Prop := cx.V b ∨ (cx.w0.heap.size ≤ b ∧ b < w.heap.size ∧ ¬ cx.Bo b ∧ ∀ i, H i ≠ none → μ i ≠ some (some b))

structure RR (cx : Cx) (H : Nat → Option Ob) (T : Nat → Option AV) (μ : Mu) (a : Act) (w : World) : Prop where
  n : a.tmps.size = cx.n
  dfr : a.defers = []
  tm : ∀ s x, T s = some x → ∃ v, a.tmps[s]? = some v ∧ Rep w (cx.Sta H μ w) μ x v
  ob : ∀ i o, H i = some o → ObRep w (cx.Sta H μ w) μ i o
  own : ∀ i b, H i ≠ none → μ i = some (some b) → (cx.w0.heap.size ≤ b ∨ cx.Bo b) ∧ b < w.heap.size
  inj : ∀ i j b, H i ≠ none → H j ≠ none → μ i = some (some b) → μ j = some (some b) → i = j
  fr : Ev cx.w0 w cx.Bo
  vlt : ∀ b, cx.V b → b < cx.w0.heap.size ∧ ¬ cx.Bo b
  blt : ∀ b, cx.Bo b → b < cx.w0.heap.size

section
variable {cx : Cx} {H : Nat → Option Ob} {T : Nat → Option AV} {μ : Mu} {a : Act} {w : World}

theorem RR.notV (h : RR cx H T μ a w) {i b : Nat} (hi : H i ≠ none) (hb : μ i = some (some b)) : ¬ cx.V b := by
  intro hv
  obtain ⟨h1, h2⟩ := h.vlt b hv
  rcases (h.own i b hi hb).1 with h3 | h3
  · omega
  · exact h2 h3

theorem RR.notSta (h : RR cx H T μ a w) {i b : Nat} (hi : H i ≠ none) (hb : μ i = some (some b)) : ¬ cx.Sta H μ w b := by
  rintro (hv | ⟨_, _, _, hn⟩)
  · exact h.notV hi hb hv
  · exact hn i hi hb

theorem RR.staLt (h : RR cx H T μ a w) {b : Nat} (hb : cx.Sta H μ w b) : b < w.heap.size := by
  rcases hb with hv | ⟨_, h2, _⟩
  · exact Nat.lt_of_lt_of_le (h.vlt b hv).1 h.fr.size
  · exact h2

theorem RepD.one {w : World} {S : Nat → Prop} {x : D} {v : Value} (h : RepD w S x v) : v.oneCell' = true := by cases h <;> rfl

/-- The master step: the objects 'wi' are written (or given up), the objects at ids that had no block are new, all else stays. -/
theorem RR.step (h : RR cx H T μ a w) {w' : World} {H' : Nat → Option Ob} {μ' : Mu} {Wr : Nat → Prop} (wi : Nat → Prop)
    (hev : Ev w w' Wr) (hWr : ∀ b, Wr b → ∃ i, wi i ∧ H i ≠ none ∧ μ i = some (some b))
    (hμ : ∀ i x, μ i = some x → μ' i = some x)
    (hold : ∀ i, μ i ≠ none → ¬ wi i → H' i = H i)
    (hgone : ∀ i, μ i ≠ none → wi i → H' i ≠ none → H i ≠ none)
    (hnew : ∀ i b, μ i = none → μ' i = some (some b) → (w.heap.size ≤ b ∧ b < w'.heap.size) ∨ (∃ j, H j ≠ none ∧ H' j = none ∧ μ j = some (some b)))
    (hninj : ∀ i j b, μ i = none → μ j = none → μ' i = some (some b) → μ' j = some (some b) → i = j)
    (hob : ∀ i o, (wi i ∨ μ i = none) → H' i = some o → ObRep w' (cx.Sta H' μ' w') μ' i o) :
    (∀ b, cx.Sta H μ w b → cx.Sta H' μ' w' b) ∧ RR cx H' T μ' a w' := by
  have hH : ∀ i, H' i ≠ none → μ i ≠ none → H i ≠ none := by
    intro i h1 h2
    by_cases hw : wi i
    · exact hgone i h2 hw h1
    · rw [hold i h2 hw] at h1; exact h1
  have hmu : ∀ i b, μ' i = some (some b) → μ i ≠ none → μ i = some (some b) := by
    intro i b h1 h2
    cases hm : μ i with
    | none => exact absurd hm h2
    | some x => have := hμ i x hm; rw [h1] at this; injection this with this; rw [this]
  have hS : ∀ b, cx.Sta H μ w b → cx.Sta H' μ' w' b := by
    intro b hb
    rcases hb with hv | ⟨h1, h2, h3, h4⟩
    · exact .inl hv
    · refine .inr ⟨h1, Nat.lt_of_lt_of_le h2 hev.size, h3, fun i hi he => ?_⟩
      by_cases hm : μ i = none
      · rcases hnew i b hm he with h5 | ⟨j, h5, _, h6⟩
        · omega
        · exact h4 j h5 h6
      · exact h4 i (hH i hi hm) (hmu i b he hm)
  have hW : ∀ b, Wr b → ¬ cx.Sta H μ w b := by
    intro b hb
    obtain ⟨i, _, h2, h3⟩ := hWr b hb
    exact h.notSta h2 h3
  refine ⟨hS, h.n, h.dfr, ?_, ?_, ?_, ?_, ?_, h.vlt, h.blt⟩
  · intro s x hx
    obtain ⟨v, h1, h2⟩ := h.tm s x hx
    exact ⟨v, h1, h2.evolve hev hW hS hμ⟩
  · intro i o ho
    by_cases hm : μ i = none
    · exact hob i o (.inr hm) ho
    · by_cases hw : wi i
      · exact hob i o (.inl hw) ho
      · rw [hold i hm hw] at ho
        refine (h.ob i o ho).evolve hev hW hS hμ fun b hb hWb => ?_
        obtain ⟨j, h1, h2, h3⟩ := hWr b hWb
        exact hw ((h.inj i j b (by simp [ho]) h2 hb h3) ▸ h1)
  · intro i b hi hb
    by_cases hm : μ i = none
    · rcases hnew i b hm hb with h1 | ⟨j, h1, _, h2⟩
      · exact ⟨.inl (Nat.le_trans h.fr.size h1.1), h1.2⟩
      · have h3 := h.own j b h1 h2
        exact ⟨h3.1, Nat.lt_of_lt_of_le h3.2 hev.size⟩
    · have h1 := h.own i b (hH i hi hm) (hmu i b hb hm)
      exact ⟨h1.1, Nat.lt_of_lt_of_le h1.2 hev.size⟩
  · intro i j b hi hj hbi hbj
    by_cases hmi : μ i = none
    · by_cases hmj : μ j = none
      · exact hninj i j b hmi hmj hbi hbj
      · have h2 := h.own j b (hH j hj hmj) (hmu j b hbj hmj)
        rcases hnew i b hmi hbi with h1 | ⟨q, h1, h3, h4⟩
        · omega
        · obtain rfl := h.inj q j b h1 (hH j hj hmj) h4 (hmu j b hbj hmj)
          exact absurd h3 hj
    · by_cases hmj : μ j = none
      · have h2 := h.own i b (hH i hi hmi) (hmu i b hbi hmi)
        rcases hnew j b hmj hbj with h1 | ⟨q, h1, h3, h4⟩
        · omega
        · obtain rfl := h.inj q i b h1 (hH i hi hmi) h4 (hmu i b hbi hmi)
          exact absurd h3 hi
      · exact h.inj i j b (hH i hi hmi) (hH j hj hmj) (hmu i b hbi hmi) (hmu j b hbj hmj)
  · refine ⟨hev.os.trans h.fr.os, hev.tape.trans h.fr.tape, hev.output.trans h.fr.output, Nat.le_trans h.fr.size hev.size, ?_, ?_⟩
    · intro b hb hn
      refine (hev.block b (Nat.lt_of_lt_of_le hb h.fr.size) fun hw => ?_).trans (h.fr.block b hb hn)
      obtain ⟨i, _, h2, h3⟩ := hWr b hw
      rcases (h.own i b h2 h3).1 with h4 | h4
      · omega
      · exact hn h4
    · intro b arr t z hb hh
      obtain ⟨arr', h1, h2⟩ := h.fr.shape b arr t z hb hh
      obtain ⟨arr'', h3, h4⟩ := hev.arr h1
      exact ⟨arr'', h3, h4.trans h2⟩

/-- a slot is written -/
theorem RR.put (h : RR cx H T μ a w) {d : Nat} {x : AV} {v : Value} (hd : d < cx.n) (hr : Rep w (cx.Sta H μ w) μ x v) :
    RR cx H (fun s => if s = d then some x else T s) μ (a.put (some d) v) w := by
  refine ⟨?_, h.dfr, ?_, h.ob, h.own, h.inj, h.fr, h.vlt, h.blt⟩
  · simp [Act.put, h.n]
  · intro s y hs
    by_cases hsd : s = d
    · subst hsd
      simp at hs; subst hs
      exact ⟨v, by simp [Act.put, h.n, hd], hr⟩
    · simp [hsd] at hs
      obtain ⟨u, h1, h2⟩ := h.tm s y hs
      exact ⟨u, by simp [Act.put, Array.getElem?_setIfInBounds_ne (Ne.symm hsd), h1], h2⟩

/-- what nobody remembers -/
theorem RR.forget (h : RR cx H T μ a w) {T' : Nat → Option AV} (hT : ∀ s x, T' s = some x → T s = some x) : RR cx H T' μ a w :=
  ⟨h.n, h.dfr, fun s x hx => h.tm s x (hT s x hx), h.ob, h.own, h.inj, h.fr, h.vlt, h.blt⟩
end
end Go.Proofs.Ytdfolpfibhfmlaa

/- Engine, part B: abstract states, what an operation does to them, and that it does so whatever the world. -/
namespace Go.Proofs.Ytdfolpfibhfmlaa
set_option linter.unusedSimpArgs false
set_option linter.unusedVariables false
open Go.RowKit

def avOf : Value → Option AV
  | .int k n => some (.d (.int k n))
  | .bool b => some (.d (.bool b))
  | .string s => some (.d (.str s))
  | .nilFunc => some .any
  | .slice none 0 0 => some .nil
  | .pointer none => some .nilp
  | .map none => some .any
  | _ => none

theorem avOf_rep {v : Value} {x : AV} (h : avOf v = some x) (w : World) (S : Nat → Prop) (μ : Mu) : Rep w S μ x v ∧ v.oneCell' = true := by
  unfold avOf at h
  split at h <;> first | (injection h with h; subst h) | (cases h)
  · exact ⟨.d .int, rfl⟩
  · exact ⟨.d .bool, rfl⟩
  · exact ⟨.d .str, rfl⟩
  · exact ⟨.any, rfl⟩
  · exact ⟨.nil, rfl⟩
  · exact ⟨.nilp, rfl⟩
  · exact ⟨.any, rfl⟩

/-- what the engine knows of a type -/
structure TInfo where
  ok : Bool := false
  size : Nat := 0
  bytes : Nat := 0
  agg : Bool := false
  ik : Option IntKind := none
  ofs : List Nat := []
  osz : List Nat := []
  oagg : List (Option Bool) := []
  pls : Option (List (Nat × Nat)) := none
  selem : Option TypeId := none
  aelem : Option (Nat × TypeId) := none
  zero : Option (List AV) := none

def aggD : TypeDesc → Bool
  | .struct _ | .array _ _ => true
  | _ => false

def tagg (P : Program) (t : TypeId) : Option Bool := (P.underlying t).map aggD

def TL (P : Program) (t : TypeId) : TInfo := match P.info? t, P.underlying t with
  | some i, some d => {
      ok := true, size := i.size, bytes := i.bytes, agg := aggD d,
      ik := (match d with | .int k => some k | _ => none),
      ofs := (match d with | .struct fs => fs.toList.map (·.offset) | _ => []),
      osz := (match d with | .struct fs => fs.toList.map (fun f => P.cellsOf f.type) | _ => []),
      oagg := (match d with | .struct fs => fs.toList.map (fun f => tagg P f.type) | _ => []),
      pls := (match d with | .struct fs => fs.toList.mapM (fun f => (P.info? f.type).map fun i => (f.offset, i.size)) | _ => none),
      selem := (match d with | .slice e => some e | _ => none),
      aelem := (match d with | .array n e => some (n, e) | _ => none),
      zero := i.zero.bind fun z => z.cells.toList.mapM avOf }
  | _, _ => {}

theorem TL_ok {P : Program} {t : TypeId} (h : (TL P t).ok = true) : ∃ i d, P.info? t = some i ∧ P.underlying t = some d ∧ (TL P t).size = i.size ∧ (TL P t).agg = aggD d ∧ (TL P t).bytes = i.bytes := by
  unfold TL at *
  cases h1 : P.info? t with
  | none => simp [h1] at h
  | some i =>
    cases h2 : P.underlying t with
    | none => simp [h1, h2] at h
    | some d => exact ⟨i, d, rfl, rfl, rfl, rfl, rfl⟩

structure St where
  t : List (Nat × AV)
  h : List (Option Ob)

def look : List (Nat × AV) → Nat → Option AV
  | [], _ => none
  | (k, x) :: l, s => if s = k then some x else look l s

def St.T (σ : St) (s : Nat) : Option AV := look σ.t s
def St.H (σ : St) (i : Nat) : Option Ob := (σ.h[i]?).join

def getT (T : Nat → Option AV) : Operand → Option AV
  | .tmp t => T t
  | .const v => avOf v
  | .func f => some (.fn f [])
  | .global _ => none

structure Eff where
  val : AV
  news : List Ob := []
  wr : List (Nat × Option Ob) := []
  rd : List Nat := []

def Eff.wlook (e : Eff) (i : Nat) : Option (Option Ob) := (e.wr.find? (fun p => p.1 == i)).map (·.2)
def appH (n0 : Nat) (e : Eff) (H : Nat → Option Ob) (i : Nat) : Option Ob :=
  if n0 ≤ i ∧ i < n0 + e.news.length then e.news[i - n0]? else match e.wlook i with | some x => x | none => H i
def appT (dst : Option Tmp) (x : AV) (T : Nat → Option AV) (s : Nat) : Option AV := if dst = some s then some x else T s

def Operand.t? : Operand → Option Tmp
  | .tmp t => some t
  | _ => none

/-- What an operation does wherever the slots that it looks at and the objects that it touches are as they are here. -/
def LocOp (cx : Cx) (n0 : Nat) (ts : Nat → Option AV) (hs : Nat → Option Ob) (o : Oper) (e : Eff) : Prop :=
  ∀ (H : Nat → Option Ob) (T : Nat → Option AV) (μ : Mu) (a : Act) (w : World) (K : Act → World → Prop) (Q : Exit → Act → World → Prop), RR cx H T μ a w →
    (∀ t, Operand.tmp t ∈ o.op.operands → T t = ts t) → (∀ i, (i ∈ e.rd ∨ i ∈ e.wr.map (·.1)) → H i = hs i) → (∀ k, k < e.news.length → μ (n0 + k) = none) →
    (∀ a' w' μ', RR cx (appH n0 e H) (appT o.dst e.val T) μ' a' w' → (∀ i x, μ i = some x → μ' i = some x) → (∀ i, μ' i ≠ none → μ i ≠ none ∨ (n0 ≤ i ∧ i < n0 + e.news.length)) → K a' w') →
    o.wp cx.P a w K Q

def dstOk (n : Nat) : Option Tmp → Prop
  | some d => d < n
  | none => True

theorem RR.eval {cx : Cx} {H : Nat → Option Ob} {T : Nat → Option AV} {μ : Mu} {a : Act} {w : World} (h : RR cx H T μ a w) {ts : Nat → Option AV} {x : Operand} {y : AV}
    (hT : ∀ t, x = .tmp t → T t = ts t) (hx : getT ts x = some y) : Rep w (cx.Sta H μ w) μ y (a.eval x) := by
  cases x with
  | tmp t =>
    obtain ⟨v, h1, h2⟩ := h.tm t y ((hT t rfl).trans hx)
    have : a.eval (.tmp t) = v := by simp [Act.eval, h1]
    rw [this]; exact h2
  | const v => exact (avOf_rep hx w _ μ).1
  | global g => cases hx
  | func f => injection hx with hx; subst hx; exact .fn (by simp) (by simp)

theorem appH_id (n0 : Nat) (H : Nat → Option Ob) (x : AV) (rd : List Nat) : appH n0 ⟨x, [], [], rd⟩ H = H := by
  funext i; simp [appH, Eff.wlook]; omega

theorem RR.putD {cx : Cx} {H : Nat → Option Ob} {T : Nat → Option AV} {μ : Mu} {a : Act} {w : World} (h : RR cx H T μ a w) {d : Option Tmp} {x : AV} {v : Value} (hd : dstOk cx.n d) (hr : Rep w (cx.Sta H μ w) μ x v) :
    RR cx H (appT d x T) μ (a.put d v) w := by
  cases d with
  | none =>
    have : appT none x T = T := by funext s; simp [appT]
    rw [this]; exact h
  | some d =>
    have : appT (some d) x T = fun s => if s = d then some x else T s := by
      funext s; simp only [appT, Option.some.injEq]
      by_cases hs : s = d
      · simp [hs]
      · simp [hs, Ne.symm hs]
    rw [this]; exact h.put hd hr

/-- an operation that leaves the world alone and yields a value -/
theorem loc_val {cx : Cx} {n0 : Nat} {ts : Nat → Option AV} {hs : Nat → Option Ob} {o : Oper} {x : AV} {rd : List Nat} (hd : dstOk cx.n o.dst)
    (h : ∀ (H : Nat → Option Ob) (T : Nat → Option AV) (μ : Mu) (a : Act) (w : World), RR cx H T μ a w → (∀ y z, y ∈ o.op.operands → getT ts y = some z → Rep w (cx.Sta H μ w) μ z (a.eval y)) → (∀ i, i ∈ rd → H i = hs i) →
      ∃ v, (execOp a.eval o).run cx.P w = .ok (.value v) w ∧ Rep w (cx.Sta H μ w) μ x v) : LocOp cx n0 ts hs o ⟨x, [], [], rd⟩ := by
  intro H T μ a w K Q hr hT hH _ hK
  obtain ⟨v, h1, h2⟩ := h H T μ a w hr (fun y z hy hz => hr.eval (fun t ht => hT t (ht ▸ hy)) hz) (fun i hi => hH i (.inl hi))
  unfold Oper.wp
  rw [h1]
  refine hK _ _ μ ?_ (fun _ _ h => h) (fun i hi => .inl hi)
  rw [appH_id]
  exact hr.putD hd h2

/-! ### move, assign, extract, pick -/
def withV (o : Option AV) (K : AV → Prop) : Prop := ∃ x, o = some x ∧ K x

theorem loc_move {cx : Cx} {n0 : Nat} {ts : Nat → Option AV} {hs : Nat → Option Ob} {o : Oper} {y : Operand} {x : AV} (hd : dstOk cx.n o.dst) (ho : o.op = .move y ∨ o.op = .assign y) (hx : getT ts y = some x) :
    LocOp cx n0 ts hs o ⟨x, [], [], []⟩ := by
  refine loc_val hd fun H T μ a w hr he _ => ⟨a.eval y, ?_, he y x ?_ hx⟩
  · rcases ho with ho | ho <;> simp [execOp, ho]
  · rcases ho with ho | ho <;> simp [Op.operands, ho]

theorem loc_extract {cx : Cx} {n0 : Nat} {ts : Nat → Option AV} {hs : Nat → Option Ob} {o : Oper} {y : Operand} {k : Nat} {xs : List AV} {x : AV} (hd : dstOk cx.n o.dst) (ho : o.op = .extract y k) (hx : getT ts y = some (.tup xs)) (hk : xs[k]? = some x) :
    LocOp cx n0 ts hs o ⟨x, [], [], []⟩ := by
  refine loc_val hd fun H T μ a w hr he _ => ?_
  have h1 := he y _ (by simp [Op.operands, ho]) hx
  generalize hv : a.eval y = v at h1
  cases h1 with
  | tup hsz hrep =>
    rename_i vs
    have hlt : k < vs.size := by rw [hsz]; exact (List.getElem?_eq_some_iff.1 hk).1
    refine ⟨vs[k], ?_, hrep k x vs[k] hk (by simp [hlt])⟩
    simp [execOp, ho, hv, Instr.extract, hlt]

theorem loc_pick {cx : Cx} {n0 : Nat} {ts : Nat → Option AV} {hs : Nat → Option Ob} {o : Oper} {c y z : Operand} {b : Bool} {x : AV} (hd : dstOk cx.n o.dst) (ho : o.op = .pick c y z) (hc : getT ts c = some (.d (.bool b)))
    (hx : getT ts (if b then y else z) = some x) : LocOp cx n0 ts hs o ⟨x, [], [], []⟩ := by
  refine loc_val hd fun H T μ a w hr he _ => ?_
  have h1 := he c _ (by simp [Op.operands, ho]) hc
  generalize hv : a.eval c = v at h1
  cases h1 with
  | d h1 =>
    cases h1
    refine ⟨a.eval (if b then y else z), ?_, he _ x (by cases b <;> simp [Op.operands, ho]) hx⟩
    cases b <;> simp [execOp, ho, hv, asBool]

end Go.Proofs.Ytdfolpfibhfmlaa

/- Engine, part C: operations that make, read and write memory. -/
namespace Go.Proofs.Ytdfolpfibhfmlaa
set_option linter.unusedSimpArgs false
set_option linter.unusedVariables false
open Go.RowKit

def setMu (μ : Mu) (n : Nat) (x : Option Nat) : Mu := fun i => if i = n then some x else μ i

theorem heap_alloc (w : World) (o : Obj) : (w.alloc o).heap = w.heap.push o := rfl
theorem alloc_new (w : World) (o : Obj) : (w.alloc o).heap[w.heap.size]? = some o := by rw [heap_alloc]; simp
theorem alloc_size (w : World) (o : Obj) : (w.alloc o).heap.size = w.heap.size + 1 := by rw [heap_alloc]; simp
theorem Ev.alloc (w : World) (o : Obj) : Ev w (w.alloc o) (fun _ => False) := by
  refine ⟨rfl, rfl, rfl, by rw [alloc_size]; omega, fun b hb _ => ?_, fun _ _ _ _ h => h.elim⟩
  rw [heap_alloc, Array.getElem?_push, if_neg (Nat.ne_of_lt hb)]

section
variable {cx : Cx} {H : Nat → Option Ob} {T : Nat → Option AV} {μ : Mu} {a : Act} {w : World}

/-- a new object in a new block -/
theorem RR.fresh (h : RR cx H T μ a w) {n0 : Nat} (hn : μ n0 = none) (ob : Ob) (x : AV) (rd : List Nat) {w' : World} {b : Nat} (hev : Ev w w' (fun _ => False)) (hb : w.heap.size ≤ b ∧ b < w'.heap.size)
    (hob : ∀ S', (∀ b, cx.Sta H μ w b → S' b) → ObRep w' S' (setMu μ n0 (some b)) n0 ob) :
    (∀ b', cx.Sta H μ w b' → cx.Sta (appH n0 ⟨x, [ob], [], rd⟩ H) (setMu μ n0 (some b)) w' b') ∧
    RR cx (appH n0 ⟨x, [ob], [], rd⟩ H) T (setMu μ n0 (some b)) a w' := by
  have hH : ∀ i, appH n0 ⟨x, [ob], [], rd⟩ H i = if i = n0 then some ob else H i := by
    intro i
    by_cases hi : i = n0
    · subst hi; simp [appH]
    · have : ¬ (n0 ≤ i ∧ i < n0 + 1) := by omega
      simp [appH, Eff.wlook, this, hi]
  have hμ : ∀ i x, μ i = some x → setMu μ n0 (some b) i = some x := by
    intro i x hx
    have : i ≠ n0 := by rintro rfl; rw [hn] at hx; cases hx
    simp [setMu, this, hx]
  have hne : ∀ i, μ i ≠ none → i ≠ n0 := by rintro i hi rfl; exact hi hn
  have hnew : ∀ i b', μ i = none → setMu μ n0 (some b) i = some (some b') → i = n0 ∧ b' = b := by
    intro i b' h1 h2
    by_cases hi : i = n0
    · simp [setMu, hi] at h2; exact ⟨hi, h2.symm⟩
    · simp [setMu, hi, h1] at h2
  have key := h.step (H' := appH n0 ⟨x, [ob], [], rd⟩ H) (μ' := setMu μ n0 (some b)) (fun _ => False) hev (fun _ h => h.elim) hμ (fun i hi _ => by rw [hH, if_neg (hne i hi)]) (fun _ _ h => h.elim)
    (fun i b' h1 h2 => by obtain ⟨_, rfl⟩ := hnew i b' h1 h2; exact .inl hb)
    (fun i j b' h1 h2 h3 h4 => (hnew i b' h1 h3).1.trans (hnew j b' h2 h4).1.symm)
  -- the stable set grows
  have hS : ∀ b', cx.Sta H μ w b' → cx.Sta (appH n0 ⟨x, [ob], [], rd⟩ H) (setMu μ n0 (some b)) w' b' := by
    intro b' hb'
    rcases hb' with hv | ⟨h1, h2, h3, h4⟩
    · exact .inl hv
    · refine .inr ⟨h1, Nat.lt_of_lt_of_le h2 hev.size, h3, fun i hi he => ?_⟩
      by_cases hin : i = n0
      · subst hin; simp [setMu] at he; omega
      · rw [hH, if_neg hin] at hi
        simp [setMu, hin] at he
        exact h4 i hi he
  refine ⟨hS, (key ?_).2⟩
  intro i o hor ho
  rcases hor with hf | hm
  · exact hf.elim
  · by_cases hin : i = n0
    · subst hin
      rw [hH, if_pos rfl] at ho
      injection ho with ho; subst ho
      exact hob _ hS
    · rw [hH, if_neg hin] at ho
      exact absurd (h.ob i o ho) (fun hr => by cases hr <;> simp_all)

/-- an object is written in place -/
theorem RR.write (h : RR cx H T μ a w) {i : Nat} (hi : H i ≠ none) {b : Nat} (hb : μ i = some (some b)) (n0 : Nat) (ob : Ob) (x : AV) (rd : List Nat) {w' : World} (hev : Ev w w' (fun c => c = b))
    (hob : ObRep w' (cx.Sta H μ w) μ i ob) :
    RR cx (appH n0 ⟨x, [], [(i, some ob)], rd⟩ H) T μ a w' := by
  have hH : ∀ j, appH n0 ⟨x, [], [(i, some ob)], rd⟩ H j = if j = i then some ob else H j := by
    intro j
    have : ¬ (n0 ≤ j ∧ j < n0 + 0) := by omega
    by_cases hj : j = i
    · subst hj; simp [appH, Eff.wlook] <;> omega
    · simp [appH, Eff.wlook, hj, Ne.symm hj] <;> omega
  have hS : cx.Sta (appH n0 ⟨x, [], [(i, some ob)], rd⟩ H) μ w' = cx.Sta (appH n0 ⟨x, [], [(i, some ob)], rd⟩ H) μ w' := rfl
  have key := h.step (H' := appH n0 ⟨x, [], [(i, some ob)], rd⟩ H) (μ' := μ) (fun j => j = i) hev (fun c hc => ⟨i, rfl, hi, hc ▸ hb⟩) (fun _ _ h => h) (fun j _ hj => by rw [hH, if_neg hj])
    (fun j _ hj _ => hj ▸ hi) (fun j b' h1 h2 => by rw [h1] at h2; cases h2) (fun j k b' h1 _ h3 _ => by rw [h1] at h3; cases h3)
  refine (key ?_).2
  have hS : ∀ b', cx.Sta H μ w b' → cx.Sta (appH n0 ⟨x, [], [(i, some ob)], rd⟩ H) μ w' b' := by
    intro b' hb'
    rcases hb' with hv | ⟨h1, h2, h3, h4⟩
    · exact .inl hv
    · refine .inr ⟨h1, Nat.lt_of_lt_of_le h2 hev.size, h3, fun j hj he => ?_⟩
      rw [hH] at hj
      by_cases hji : j = i
      · subst hji; exact h4 j hi he
      · rw [if_neg hji] at hj; exact h4 j hj he
  intro j o hor ho
  rcases hor with hf | hm
  · subst hf
    rw [hH, if_pos rfl] at ho
    injection ho with ho; subst ho
    exact hob.evolve (Ev.refl w' (fun _ => False)) (fun _ h => h.elim) hS (fun _ _ h => h) (fun _ _ h => h)
  · by_cases hji : j = i
    · subst hji; rw [hb] at hm; cases hm
    · rw [hH, if_neg hji] at ho
      exact absurd (h.ob j o ho) (fun hr => by cases hr <;> simp_all)
end

/-! ### alloc, box -/
def cellsA : AV → Option (List AV)
  | .agg cs => some cs
  | .tup _ => none
  | .any => none
  | x => some [x]

theorem cellsA_rep {w : World} {S : Nat → Prop} {μ : Mu} {x : AV} {cs : List AV} {v : Value} (h : cellsA x = some cs) (hr : Rep w S μ x v) :
    v.cells.size = cs.length ∧ (∀ (j : Nat) (y : AV) (u : Value), cs[j]? = some y → v.cells[j]? = some u → Rep w S μ y u) ∧ (∀ u ∈ v.cells, u.oneCell' = true) := by
  cases hr with
  | agg h1 h2 h3 =>
    simp only [cellsA, Option.some.injEq] at h; subst h
    exact ⟨h1, h2, h3⟩
  | tup h1 h2 => simp [cellsA] at h
  | any => simp [cellsA] at h
  | d hd =>
    simp only [cellsA, Option.some.injEq] at h; subst h
    have ho := hd.one
    have hc : v.cells = #[v] := by cases hd <;> rfl
    rw [hc]
    refine ⟨rfl, fun j y u hj hu => ?_, fun u hu => ?_⟩
    · cases j with
      | zero => simp at hj hu; subst hj hu; exact .d hd
      | succ j => simp at hj
    · simp at hu; subst hu; exact ho
  | _ =>
    simp only [cellsA, Option.some.injEq] at h; subst h
    refine ⟨rfl, fun j y u hj hu => ?_, fun u hu => ?_⟩
    · cases j with
      | zero =>
        simp [Value.cells] at hj hu; subst hj hu
        first | exact .ptr ‹_› | exact .ep ‹_› | exact .dp _ ‹_› ‹_› ‹_› | exact .rowNil ‹_› | exact .row ‹_› ‹_› ‹_› ‹_› ‹_› | exact .subNil | exact .sub ‹_› ‹_› ‹_› | exact .rowc ‹_› ‹_› ‹_› ‹_› ‹_› | exact .nil | exact .nilp | exact .ifc ‹_› | exact .mp ‹_› | exact .fn ‹_› ‹_› | exact .tf ‹_› ‹_›
      | succ j => simp at hj
    · simp [Value.cells] at hu; subst hu; rfl

/-- a new box -/
theorem loc_newbox {cx : Cx} {n0 : Nat} {ts : Nat → Option AV} {hs : Nat → Option Ob} {o : Oper} {t : TypeId} {cs : List AV} (hd : dstOk cx.n o.dst)
    (h : ∀ (H : Nat → Option Ob) (T : Nat → Option AV) (μ : Mu) (a : Act) (w : World), RR cx H T μ a w → (∀ y z, y ∈ o.op.operands → getT ts y = some z → Rep w (cx.Sta H μ w) μ z (a.eval y)) →
      ∃ arr : Array Value, (execOp a.eval o).run cx.P w = .ok (.value (.pointer (some ⟨w.heap.size, 0, none⟩))) (w.alloc (.cells arr t)) ∧ arr.size = cs.length ∧
        (∀ (j : Nat) (x : AV) (v : Value), cs[j]? = some x → arr[j]? = some v → Rep w (cx.Sta H μ w) μ x v) ∧ (∀ v ∈ arr, v.oneCell' = true)) :
    LocOp cx n0 ts hs o ⟨.ptr n0 0, [.box t cs], [], []⟩ := by
  intro H T μ a w K Q hr hT hH hn hK
  obtain ⟨arr, h1, h2, h3, h4⟩ := h H T μ a w hr (fun y z hy hz => hr.eval (fun t ht => hT t (ht ▸ hy)) hz)
  unfold Oper.wp
  rw [h1]
  have hn0 : μ n0 = none := hn 0 (by simp)
  have hμ : ∀ i x, μ i = some x → setMu μ n0 (some w.heap.size) i = some x := by
    intro i x hx
    have : i ≠ n0 := by rintro rfl; rw [hn0] at hx; cases hx
    simp [setMu, this, hx]
  have key := hr.fresh hn0 (.box t cs) (.ptr n0 0) [] (Ev.alloc w (.cells arr t)) (b := w.heap.size) (by rw [alloc_size]; omega)
    (fun S' hS => .box (by simp [setMu]) (alloc_new w _) h2 (fun j x v hx hv => (h3 j x v hx hv).evolve (Ev.alloc w _) (fun _ h => h.elim) hS hμ) h4)
  refine hK _ _ _ (key.2.putD hd (.ptr (by simp [setMu]))) hμ (fun i hi => ?_)
  by_cases hin : i = n0
  · subst hin; exact .inr (by simp)
  · simp [setMu, hin] at hi; exact .inl hi

theorem run_newVar (P : Program) (w : World) (t : TypeId) (v : Value) : (newVar t v).run P w = .ok ⟨w.heap.size, 0, none⟩ (w.alloc (.cells v.cells t)) := rfl

theorem loc_box {cx : Cx} {n0 : Nat} {ts : Nat → Option AV} {hs : Nat → Option Ob} {o : Oper} {t : TypeId} {y : Operand} {x : AV} {cs : List AV} (hd : dstOk cx.n o.dst) (ho : o.op = .box t y) (hx : getT ts y = some x) (hc : cellsA x = some cs) :
    LocOp cx n0 ts hs o ⟨.ptr n0 0, [.box t cs], [], []⟩ := by
  refine loc_newbox hd fun H T μ a w hr he => ?_
  have h1 := he y x (by simp [Op.operands, ho]) hx
  obtain ⟨h2, h3, h4⟩ := cellsA_rep hc h1
  exact ⟨(a.eval y).cells, by simp [execOp, ho, Instr.box, run_newVar], h2, h3, h4⟩

theorem mapM_get {α β : Type} {f : α → Option β} : ∀ (l : List α) (m : List β), l.mapM f = some m → m.length = l.length ∧ ∀ (j : Nat) (x : α) (y : β), l[j]? = some x → m[j]? = some y → f x = some y
  | [], m, h => by simp at h; subst h; simp
  | a :: l, m, h => by
    simp only [List.mapM_cons, bind, Option.bind] at h
    cases h1 : f a with
    | none => simp [h1] at h
    | some b =>
      cases h2 : l.mapM f with
      | none => simp [h1, h2] at h
      | some m' =>
        simp [h1, h2] at h; subst h
        obtain ⟨h3, h4⟩ := mapM_get l m' h2
        refine ⟨by simp [h3], fun j x y hx hy => ?_⟩
        cases j with
        | zero => simp at hx hy; subst hx hy; exact h1
        | succ j => simp at hx hy; exact h4 j x y hx hy

theorem TL_zero {P : Program} {t : TypeId} {cs : List AV} (h : (TL P t).zero = some cs) : ∃ i z, P.info? t = some i ∧ i.zero = some z ∧ z.cells.size = cs.length ∧ (TL P t).size = i.size ∧ (TL P t).ok = true ∧
    (∀ (w : World) (S : Nat → Prop) (μ : Mu) (j : Nat) (x : AV) (v : Value), cs[j]? = some x → z.cells[j]? = some v → Rep w S μ x v) ∧ (∀ v ∈ z.cells, v.oneCell' = true) := by
  unfold TL at *
  cases h1 : P.info? t with
  | none => simp [h1] at h
  | some i =>
    cases h2 : P.underlying t with
    | none => simp [h1, h2] at h
    | some d =>
      simp only [h1, h2] at h
      cases h3 : i.zero with
      | none => simp [h3] at h
      | some z =>
        simp only [h3, Option.bind_some] at h
        obtain ⟨h4, h5⟩ := mapM_get _ _ h
        refine ⟨i, z, rfl, h3, by simp at h4; exact h4.symm, rfl, rfl, fun w S μ j x v hx hv => (avOf_rep (h5 j v x (by simpa using hv) hx) w S μ).1, fun v hv => ?_⟩
        obtain ⟨j, hj, rfl⟩ := Array.mem_iff_getElem.1 hv
        have hj' : j < cs.length := by simp at h4; omega
        exact (avOf_rep (h5 j z.cells[j] cs[j] (by simp [hj]) (by simp [hj'])) default (fun _ => True) (fun _ => none)).2

theorem loc_alloc {cx : Cx} {n0 : Nat} {ts : Nat → Option AV} {hs : Nat → Option Ob} {o : Oper} {t : TypeId} {cs : List AV} (hd : dstOk cx.n o.dst) (ho : o.op = .alloc t) (hc : (TL cx.P t).zero = some cs) :
    LocOp cx n0 ts hs o ⟨.ptr n0 0, [.box t cs], [], []⟩ := by
  obtain ⟨i, z, h1, h2, h3, _, _, h4, h5⟩ := TL_zero hc
  refine loc_newbox hd fun H T μ a w hr he => ⟨z.cells, ?_, h3, fun j x v hx hv => h4 w _ μ j x v hx hv, h5⟩
  simp [execOp, ho, Instr.alloc, zeroValue, typeInfo, h1, h2, run_newVar]
end Go.Proofs.Ytdfolpfibhfmlaa

/- Engine, part D: loads, stores, addresses. -/
namespace Go.Proofs.Ytdfolpfibhfmlaa
set_option linter.unusedSimpArgs false
set_option linter.unusedVariables false
open Go.RowKit

/-- the cells from an address on stand for these -/
def RangeA (w : World) (S : Nat → Prop) (μ : Mu) (b off : Nat) (xs : List AV) : Prop :=
  ∀ (j : Nat) (x : AV), xs[j]? = some x → ∃ v, w.cell? ⟨b, off + j, none⟩ = some v ∧ Rep w S μ x v ∧ v.oneCell' = true

theorem list_choose {α β : Type} {p : Nat → α → β → Prop} : ∀ (l : List α), (∀ (j : Nat) (x : α), l[j]? = some x → ∃ v, p j x v) → ∃ vs : List β, vs.length = l.length ∧ ∀ (j : Nat) (x : α) (v : β), l[j]? = some x → vs[j]? = some v → p j x v
  | [], _ => ⟨[], rfl, by simp⟩
  | a :: l, h => by
    obtain ⟨v, hv⟩ := h 0 a rfl
    obtain ⟨vs, h1, h2⟩ := list_choose (p := fun j => p (j + 1)) l (fun j x hx => h (j + 1) x (by simpa using hx))
    refine ⟨v :: vs, by simp [h1], fun j x u hx hu => ?_⟩
    cases j with
    | zero => simp at hx hu; subst hx hu; exact hv
    | succ j => simp at hx hu; exact h2 j x u hx hu

theorem run_v {P : Program} {s : Sem Value} {w w' : World} {v : Value} (h : s.run P w = .ok v w') : (do let x ← s; pure (Next.value x) : Sem Next).run P w = .ok (.value v) w' := by
  rw [Sem.run_bind, h]; rfl
theorem run_u {P : Program} {s : Sem Unit} {w w' : World} (h : s.run P w = .ok () w') : (do s; pure Next.skip : Sem Next).run P w = .ok .skip w' := by
  rw [Sem.run_bind, h]; rfl
theorem run_loadAt_one {P : Program} (w : World) (t : TypeId) (b off : Nat) (v : Value) (d : TypeDesc) (hu : P.underlying t = some d) (hd : aggD d = false) (hc : w.cell? ⟨b, off, none⟩ = some v) :
    (Instr.loadAt t (.pointer (some ⟨b, off, none⟩))).run P w = .ok v w := by
  have hagg : (isAgg t).run P w = .ok false w := by
    unfold isAgg
    rw [Sem.run_bind, run_underlying hu w]
    cases d <;> simp_all [aggD]
  simp [Instr.loadAt, Instr.sureAddr, loadVar, hagg, hc]

/-- what a load of type t makes of the cells xs that lie at the address -/
def ldV (P : Program) (t : TypeId) (xs : List AV) (K : AV → Prop) : Prop :=
  (TL P t).ok = true ∧ (if (TL P t).agg then (TL P t).size ≤ xs.length ∧ K (.agg (xs.take (TL P t).size)) else ∃ x, xs[0]? = some x ∧ K x)

theorem run_load {P : Program} {w : World} {S : Nat → Prop} {μ : Mu} {b off : Nat} {xs : List AV} {t : TypeId} {K : AV → Prop} (hr : RangeA w S μ b off xs) (h : ldV P t xs K) :
    ∃ x v, K x ∧ (Instr.loadAt t (.pointer (some ⟨b, off, none⟩))).run P w = .ok v w ∧ Rep w S μ x v := by
  obtain ⟨hok, h⟩ := h
  obtain ⟨i, d, h1, h2, h3, h4, _⟩ := TL_ok hok
  by_cases hagg : (TL P t).agg = true
  · rw [if_pos hagg] at h
    obtain ⟨hle, hK⟩ := h
    obtain ⟨vs, hl, hv⟩ := list_choose (p := fun j x v => w.cell? ⟨b, off + j, none⟩ = some v ∧ Rep w S μ x v ∧ v.oneCell' = true) (xs.take (TL P t).size) (fun j x hx => hr j x (by
      rw [List.getElem?_take] at hx; split at hx; (· exact hx); (· cases hx)))
    have hlen : vs.length = (TL P t).size := by rw [hl, List.length_take]; omega
    have get : ∀ (j : Nat) (v : Value), vs[j]? = some v → ∃ x, (xs.take (TL P t).size)[j]? = some x := by
      intro j v hj
      have : j < (xs.take (TL P t).size).length := hl ▸ (List.getElem?_eq_some_iff.1 hj).1
      exact ⟨_, List.getElem?_eq_getElem this⟩
    refine ⟨_, .agg vs.toArray, hK, run_loadAt_mid w b off t vs d (fun j v hj => ?_) h2 ?_ ?_, .agg (by simp [hl]) (fun j x v hx hj => (hv j x v hx (by simpa using hj)).2.1) (fun v hm => ?_)⟩
    · obtain ⟨x, hx⟩ := get j v hj
      exact (hv j x v hx hj).1
    · rw [h4] at hagg; cases d <;> simp_all [aggD]
    · rw [h1]; simp [hlen, h3]
    · obtain ⟨j, hj⟩ := List.mem_iff_getElem?.1 (by simpa using hm : v ∈ vs)
      obtain ⟨x, hx⟩ := get j v hj
      exact (hv j x v hx hj).2.2
  · rw [if_neg hagg] at h
    obtain ⟨x, hx, hK⟩ := h
    obtain ⟨v, hc, hrep, _⟩ := hr 0 x hx
    exact ⟨x, v, hK, run_loadAt_one w t b off v d h2 (by rw [h4] at hagg; simpa using hagg) (by simpa using hc), hrep⟩

theorem range_box {cx : Cx} {H : Nat → Option Ob} {T : Nat → Option AV} {μ : Mu} {a : Act} {w : World} (hr : RR cx H T μ a w) {i off b : Nat} {t : TypeId} {cs : List AV} (hi : H i = some (.box t cs)) (hb : μ i = some (some b)) :
    RangeA w (cx.Sta H μ w) μ b off (cs.drop off) := by
  intro j x hx
  rw [List.getElem?_drop] at hx
  cases hr.ob i _ hi with
  | box h1 h2 h3 h4 h5 =>
    rw [hb] at h1; injection h1 with h1; injection h1 with h1; subst h1
    rename_i arr
    have hlt : off + j < arr.size := by rw [h3]; exact (List.getElem?_eq_some_iff.1 hx).1
    exact ⟨arr[off + j], by simp [World.cell?, h2, hlt], h4 _ x _ hx (by simp [hlt]), h5 _ (by simp)⟩

theorem range_rows {cx : Cx} {H : Nat → Option Ob} {T : Nat → Option AV} {μ : Mu} {a : Act} {w : World} (hr : RR cx H T μ a w) {i idx k b sz : Nat} {t : TypeId} {rs : List (List D)} {r : List D} (hi : H i = some (.rows t sz rs)) (hb : μ i = some (some b))
    (hx : rs[idx]? = some r) : RangeA w (cx.Sta H μ w) μ b (idx * sz + k) ((r.drop k).map .d) := by
  intro j x hj
  rw [List.getElem?_map, List.getElem?_drop] at hj
  cases hd : r[k + j]? with
  | none => simp [hd] at hj
  | some y =>
    simp [hd] at hj; subst hj
    cases hr.ob i _ hi with
    | rowsNil h1 _ => rw [hb] at h1; cases h1
    | rows h1 h2 h3 h4 h5 h6 =>
      rw [hb] at h1; injection h1 with h1; injection h1 with h1; subst h1
      rename_i arr
      have hk : k + j < sz := by rw [← h5 idx r hx]; exact (List.getElem?_eq_some_iff.1 hd).1
      have hidx : idx < rs.length := (List.getElem?_eq_some_iff.1 hx).1
      have hlt : idx * sz + (k + j) < arr.size := by
        have : (idx + 1) * sz ≤ rs.length * sz := Nat.mul_le_mul_right _ hidx
        rw [Nat.add_mul] at this; omega
      have := h6 idx (k + j) r y arr[idx * sz + (k + j)] hx hd (by simp [hlt])
      exact ⟨arr[idx * sz + (k + j)], by simp [World.cell?, h2, hlt, Nat.add_assoc], .d this, this.one⟩

theorem range_dp {w : World} {S : Nat → Prop} {μ : Mu} {r : List D} {v : Value} (h : Rep w S μ (.dp r) v) : ∃ b off, v = .pointer (some ⟨b, off, none⟩) ∧ RangeA w S μ b off (r.map .d) := by
  cases h with
  | dp f hS hc hrep =>
    rename_i b off
    refine ⟨b, off, rfl, fun j x hx => ?_⟩
    rw [List.getElem?_map] at hx
    cases hd : r[j]? with
    | none => simp [hd] at hx
    | some y => simp [hd] at hx; subst hx; exact ⟨f j, hc j y hd, .d (hrep j y hd), (hrep j y hd).one⟩

/-- the cells that lie at a pointer, and which object holds them -/
def atV (hs : Nat → Option Ob) (p : AV) (K : List AV → List Nat → Prop) : Prop :=
  match p with
  | .ptr i off => match hs i with
    | some (.box _ cs) => K (cs.drop off) [i]
    | _ => False
  | .ep i sz idx k => match hs i with
    | some (.rows _ sz' rs) => sz' = sz ∧ ∃ r, rs[idx]? = some r ∧ K ((r.drop k).map .d) [i]
    | _ => False
  | .dp r => K (r.map .d) []
  | _ => False

theorem atV_range {hs : Nat → Option Ob} {p : AV} {K : List AV → List Nat → Prop} (h : atV hs p K) : ∃ xs rd, K xs rd ∧
    ∀ (cx : Cx) (H : Nat → Option Ob) (T : Nat → Option AV) (μ : Mu) (a : Act) (w : World) (v : Value), RR cx H T μ a w → Rep w (cx.Sta H μ w) μ p v → (∀ i, i ∈ rd → H i = hs i) →
      ∃ b off, v = .pointer (some ⟨b, off, none⟩) ∧ RangeA w (cx.Sta H μ w) μ b off xs := by
  cases p with
  | ptr i off =>
    simp only [atV] at h
    cases hi : hs i with
    | none => simp [hi] at h
    | some ob =>
      cases ob with
      | map _ _ => simp [hi] at h
      | iter _ _ _ _ => simp [hi] at h
      | siter _ _ => simp [hi] at h
      | rows t sz rs => simp [hi] at h
      | box t cs =>
        simp only [hi] at h
        refine ⟨_, _, h, fun cx H T μ a w v hr hp hH => ?_⟩
        cases hp with
        | ptr hb => exact ⟨_, off, rfl, range_box hr ((hH i (by simp)).trans hi) hb⟩
  | ep i sz idx k =>
    simp only [atV] at h
    cases hi : hs i with
    | none => simp [hi] at h
    | some ob =>
      cases ob with
      | map _ _ => simp [hi] at h
      | iter _ _ _ _ => simp [hi] at h
      | siter _ _ => simp [hi] at h
      | box t cs => simp [hi] at h
      | rows t sz' rs =>
        simp only [hi] at h
        obtain ⟨rfl, r, hx, hK⟩ := h
        refine ⟨_, _, hK, fun cx H T μ a w v hr hp hH => ?_⟩
        cases hp with
        | ep hb => exact ⟨_, _, rfl, range_rows hr ((hH i (by simp)).trans hi) hb hx⟩
  | dp r => exact ⟨_, _, h, fun cx H T μ a w v hr hp _ => range_dp hp⟩
  | _ => exact h.elim

theorem loc_load {cx : Cx} {n0 : Nat} {ts : Nat → Option AV} {hs : Nat → Option Ob} {o : Oper} {t : TypeId} {y : Operand} {p : AV} {K : Eff → Prop} (hd : dstOk cx.n o.dst) (ho : o.op = .load t y) (hy : getT ts y = some p)
    (h : atV hs p fun xs rd => ldV cx.P t xs fun x => K ⟨x, [], [], rd⟩) : ∃ e, LocOp cx n0 ts hs o e ∧ K e := by
  obtain ⟨xs, rd, hl, hrange⟩ := atV_range h
  have hx : ∃ x, K ⟨x, [], [], rd⟩ ∧ ldV cx.P t xs fun y => y = x := by
    obtain ⟨hok, hl⟩ := hl
    by_cases hagg : (TL cx.P t).agg = true
    · rw [if_pos hagg] at hl
      exact ⟨_, hl.2, hok, by rw [if_pos hagg]; exact ⟨hl.1, rfl⟩⟩
    · rw [if_neg hagg] at hl
      obtain ⟨x, h1, h2⟩ := hl
      exact ⟨x, h2, hok, by rw [if_neg hagg]; exact ⟨x, h1, rfl⟩⟩
  obtain ⟨x, hK, hl'⟩ := hx
  refine ⟨_, loc_val hd fun H T μ a w hr he hH => ?_, hK⟩
  obtain ⟨b, off, hv, hR⟩ := hrange cx H T μ a w (a.eval y) hr (he y p (by simp [Op.operands, ho]) hy) hH
  obtain ⟨x', v, rfl, hrun, hrep⟩ := run_load hR hl'
  exact ⟨v, by simp [execOp, ho, hv, hrun], hrep⟩

/-! ### addresses -/
def faV (P : Program) (t : TypeId) (k : Nat) (p : AV) (K : AV → Prop) : Prop :=
  (TL P t).ok = true ∧ ∃ off, (TL P t).ofs[k]? = some off ∧ (∃ z, (TL P t).osz[k]? = some z ∧ 0 < z) ∧
  match p with
  | .ptr i o => K (.ptr i (o + off))
  | .ep i sz idx q => K (.ep i sz idx (q + off))
  | .dp r => K (.dp (r.drop off))
  | _ => False

theorem Addr_add (b o j : Nat) : (⟨b, o, none⟩ : Addr).add j = ⟨b, o + j, none⟩ := by unfold Addr.add; split <;> simp_all

theorem Rep.dp_drop {w : World} {S : Nat → Prop} {μ : Mu} {r : List D} {b off : Nat} (h : Rep w S μ (.dp r) (.pointer (some ⟨b, off, none⟩))) (k : Nat) : Rep w S μ (.dp (r.drop k)) (.pointer (some ⟨b, off + k, none⟩)) := by
  cases h with
  | dp f hS hc hrep =>
    refine .dp (fun j => f (k + j)) hS (fun j x hx => ?_) (fun j x hx => hrep _ x (by simpa [List.getElem?_drop] using hx))
    have := hc (k + j) x (by simpa [List.getElem?_drop] using hx)
    rw [Nat.add_assoc]; exact this

theorem TL_struct {P : Program} {t : TypeId} {k off z : Nat} (hok : (TL P t).ok = true) (h1 : (TL P t).ofs[k]? = some off) (h2 : (TL P t).osz[k]? = some z) :
    ∃ fs f, P.underlying t = some (.struct fs) ∧ fs[k]? = some f ∧ f.offset = off ∧ P.cellsOf f.type = z ∧ ((TL P t).oagg[k]? = some (tagg P f.type)) := by
  obtain ⟨i, d, hi, hu, _⟩ := TL_ok hok
  unfold TL at *
  simp only [hi, hu] at h1 h2 ⊢
  cases d <;> simp at h1 h2
  rename_i fs _
  obtain ⟨f, hf, e1⟩ := h1
  obtain ⟨f', hf', e2⟩ := h2
  rw [hf] at hf'; injection hf' with hf'; subst hf'
  exact ⟨fs, f, rfl, hf, e1, e2, by simp [hf]⟩

theorem cellsOf_info {P : Program} {t : TypeId} {z : Nat} (h : P.cellsOf t = z) (hz : 0 < z) : ∃ i, P.info? t = some i ∧ i.size = z := by
  unfold Program.cellsOf at h
  cases hi : P.info? t with
  | none => simp [hi] at h; omega
  | some i => exact ⟨i, rfl, by simpa [hi] using h⟩

theorem loc_fieldAddr {cx : Cx} {n0 : Nat} {ts : Nat → Option AV} {hs : Nat → Option Ob} {o : Oper} {t : TypeId} {y : Operand} {k : Nat} {p : AV} {K : Eff → Prop} (hd : dstOk cx.n o.dst) (ho : o.op = .fieldAddr t y k) (hy : getT ts y = some p)
    (h : faV cx.P t k p fun x => K ⟨x, [], [], []⟩) : ∃ e, LocOp cx n0 ts hs o e ∧ K e := by
  obtain ⟨hok, off, h1, ⟨z, h2, hz⟩, h3⟩ := h
  obtain ⟨fs, f, hu, hf, rfl, hc, _⟩ := TL_struct hok h1 h2
  obtain ⟨i, hi, hsz⟩ := cellsOf_info hc hz
  have run : ∀ (w : World) (b o : Nat), (Instr.fieldAt t (.pointer (some ⟨b, o, none⟩)) k).run cx.P w = .ok (.pointer (some ⟨b, o + f.offset, none⟩)) w := by
    intro w b o
    have : ¬ i.size = 0 := by omega
    simp [Instr.fieldAt, run_underlying hu, hf, Instr.sureAddr, fieldPlace, sizeOf, typeInfo, hi, this, Addr_add]
  cases p with
  | ptr i o' =>
    refine ⟨_, loc_val hd fun H T μ a w hr he _ => ?_, h3⟩
    have h4 := he y _ (by simp [Op.operands, ho]) hy
    generalize hv : a.eval y = v at h4
    cases h4 with
    | ptr hb => exact ⟨_, by simp [execOp, ho, hv, run], .ptr hb⟩
  | ep i sz idx q =>
    refine ⟨_, loc_val hd fun H T μ a w hr he _ => ?_, h3⟩
    have h4 := he y _ (by simp [Op.operands, ho]) hy
    generalize hv : a.eval y = v at h4
    cases h4 with
    | ep hb => exact ⟨_, by simp only [execOp, ho, hv]; exact run_v (run _ _ _), by rw [Nat.add_assoc]; exact .ep hb⟩
  | dp r =>
    refine ⟨_, loc_val hd fun H T μ a w hr he _ => ?_, h3⟩
    have h4 := he y _ (by simp [Op.operands, ho]) hy
    obtain ⟨b, off, hv, _⟩ := range_dp h4
    rw [hv] at h4
    exact ⟨_, by simp [execOp, ho, hv, run], h4.dp_drop _⟩
  | _ => exact h3.elim

/-- which slice or array element -/
def iaV (P : Program) (t : TypeId) (p : AV) (n : Int) (K : AV → Prop) : Prop :=
  (TL P t).ok = true ∧
  match (TL P t).selem with
  | some e => (TL P e).ok = true ∧
    (match p with
      | .d (.sl rows) => 0 ≤ n ∧ ∃ r, rows[n.toNat]? = some r ∧ r.length = (TL P e).size ∧ K (.dp r)
      | .row i sz o len => sz = (TL P e).size ∧ 0 ≤ n ∧ n < len ∧ K (.ep i sz (o + n.toNat) 0)
      | .sub i sz o len => sz = (TL P e).size ∧ 0 ≤ n ∧ n < len ∧ K (.ep i sz (o + n.toNat) 0)
      | _ => False)
  | none => match (TL P t).aelem with
    | some (m, e) => (TL P e).ok = true ∧
      (match p with
        | .ptr i o => 0 ≤ n ∧ n < m ∧ K (.ptr i (o + n.toNat * (TL P e).size))
        | .ep i sz 0 0 => sz = (TL P e).size ∧ 0 ≤ n ∧ n < m ∧ K (.ep i sz n.toNat 0)
        | _ => False)
    | none => False

theorem TL_selem {P : Program} {t e : TypeId} (hok : (TL P t).ok = true) (h : (TL P t).selem = some e) : P.underlying t = some (.slice e) := by
  obtain ⟨i, d, hi, hu, _⟩ := TL_ok hok
  unfold TL at h
  simp only [hi, hu] at h
  cases d <;> simp at h
  subst h; exact hu
theorem TL_aelem {P : Program} {t e : TypeId} {m : Nat} (hok : (TL P t).ok = true) (h : (TL P t).aelem = some (m, e)) : P.underlying t = some (.array m e) := by
  obtain ⟨i, d, hi, hu, _⟩ := TL_ok hok
  unfold TL at h
  simp only [hi, hu] at h
  cases d <;> simp at h
  obtain ⟨rfl, rfl⟩ := h; exact hu

theorem run_indexAt_sl {P : Program} (w : World) (t e : TypeId) (i : TypeInfo) (hu : P.underlying t = some (.slice e)) (hi : P.info? e = some i) (b o len c : Nat) (k : IntKind) (n : Int) (h0 : 0 ≤ n) (h1 : n < len) :
    (Instr.indexAt t (.slice (some ⟨b, o, none⟩) len c) (.int k n)).run P w = .ok (.pointer (some ⟨b, o + n.toNat * i.size, none⟩)) w := by
  simp [Instr.indexAt, asIntOf, run_underlying hu, h0, h1, sizeOf, typeInfo, hi, Addr_add]
theorem run_indexAt_ar {P : Program} (w : World) (t e : TypeId) (m : Nat) (i : TypeInfo) (hu : P.underlying t = some (.array m e)) (hi : P.info? e = some i) (b o : Nat) (k : IntKind) (n : Int) (h0 : 0 ≤ n) (h1 : n < m) :
    (Instr.indexAt t (.pointer (some ⟨b, o, none⟩)) (.int k n)).run P w = .ok (.pointer (some ⟨b, o + n.toNat * i.size, none⟩)) w := by
  simp [Instr.indexAt, asIntOf, run_underlying hu, h0, h1, sizeOf, typeInfo, hi, Addr_add, Instr.sureAddr]

theorem loc_indexAddr {cx : Cx} {n0 : Nat} {ts : Nat → Option AV} {hs : Nat → Option Ob} {o : Oper} {t : TypeId} {y z : Operand} {k : IntKind} {n : Int} {p : AV} {K : Eff → Prop} (hd : dstOk cx.n o.dst) (ho : o.op = .indexAddr t y z) (hy : getT ts y = some p)
    (hz : getT ts z = some (.d (.int k n))) (h : iaV cx.P t p n fun x => K ⟨x, [], [], []⟩) : ∃ e, LocOp cx n0 ts hs o e ∧ K e := by
  obtain ⟨hok, h⟩ := h
  have int : ∀ {w S μ v}, Rep w S μ (.d (.int k n)) v → v = .int k n := by intro w S μ v h; cases h with | d h => cases h; rfl
  cases he1 : (TL cx.P t).selem with
  | some e =>
    simp only [he1] at h
    obtain ⟨heok, h⟩ := h
    obtain ⟨i, _, hi, _, hsz, _⟩ := TL_ok heok
    have hu := TL_selem hok he1
    cases p with
    | d x =>
      cases x with
      | sl rows =>
        obtain ⟨h0, r, hr, hrl, hK⟩ := h
        refine ⟨_, loc_val hd fun H T μ a w hr' he _ => ?_, hK⟩
        have h4 := he y _ (by simp [Op.operands, ho]) hy
        have h5 := int (he z _ (by simp [Op.operands, ho]) hz)
        generalize hv : a.eval y = v at h4
        have hlt : n.toNat < rows.length := (List.getElem?_eq_some_iff.1 hr).1
        cases h4 with
        | d h4 =>
          cases h4 with
          | nil => simp at hlt
          | sl f hS hc hs2 hcell hrep =>
            rename_i b off c sz
            refine ⟨_, ?_, .dp (b := b) (off := off + n.toNat * sz) (fun j => f n.toNat j) hS (fun j x hx => hcell _ j r x hr hx) (fun j x hx => hrep _ j r x hr hx)⟩
            have := hs2 _ _ hr
            have e4 : i.size = sz := by omega
            simp only [execOp, ho, hv, h5]
            rw [← e4]; exact run_v (run_indexAt_sl w t e i hu hi b off rows.length c k n h0 (by omega))
      | _ => exact h.elim
    | row j sz o' len =>
      obtain ⟨e2, h0, h1, hK⟩ := h
      refine ⟨_, loc_val hd fun H T μ a w hr' he _ => ?_, hK⟩
      have h4 := he y _ (by simp [Op.operands, ho]) hy
      have h5 := int (he z _ (by simp [Op.operands, ho]) hz)
      generalize hv : a.eval y = v at h4
      cases h4 with
      | rowNil _ => simp at h1; omega
      | row hb _ _ _ _ =>
        have e3 : i.size = sz := by omega
        refine ⟨_, ?_, .ep (idx := o' + n.toNat) (k := 0) hb⟩
        simp only [execOp, ho, hv, h5]
        rw [Nat.add_mul, Nat.add_zero, ← e3]; exact run_v (run_indexAt_sl w t e i hu hi _ (o' * i.size) len _ k n h0 h1)
    | sub j sz o' len =>
      obtain ⟨e2, h0, h1, hK⟩ := h
      refine ⟨_, loc_val hd fun H T μ a w hr' he _ => ?_, hK⟩
      have h4 := he y _ (by simp [Op.operands, ho]) hy
      have h5 := int (he z _ (by simp [Op.operands, ho]) hz)
      generalize hv : a.eval y = v at h4
      cases h4 with
      | subNil => simp at h1; omega
      | sub hb _ _ =>
        have e3 : i.size = sz := by omega
        refine ⟨_, ?_, .ep (idx := o' + n.toNat) (k := 0) hb⟩
        simp only [execOp, ho, hv, h5]
        rw [Nat.add_mul, Nat.add_zero, ← e3]; exact run_v (run_indexAt_sl w t e i hu hi _ (o' * i.size) len _ k n h0 h1)
    | _ => exact h.elim
  | none =>
    simp only [he1] at h
    cases he2 : (TL cx.P t).aelem with
    | none => simp [he2] at h
    | some me =>
      obtain ⟨m, e⟩ := me
      simp only [he2] at h
      obtain ⟨heok, h⟩ := h
      obtain ⟨i, _, hi, _, hsz, _⟩ := TL_ok heok
      have hu := TL_aelem hok he2
      cases p with
      | ptr j o' =>
        obtain ⟨h0, h1, hK⟩ := h
        refine ⟨_, loc_val hd fun H T μ a w hr' he _ => ?_, hK⟩
        have h4 := he y _ (by simp [Op.operands, ho]) hy
        have h5 := int (he z _ (by simp [Op.operands, ho]) hz)
        generalize hv : a.eval y = v at h4
        cases h4 with
        | ptr hb =>
          refine ⟨_, ?_, .ptr hb⟩
          simp only [execOp, ho, hv, h5]
          rw [hsz]; exact run_v (run_indexAt_ar w t e m i hu hi _ o' k n h0 h1)
      | ep j sz idx q =>
        cases idx with
        | succ _ => exact h.elim
        | zero =>
          cases q with
          | succ _ => exact h.elim
          | zero =>
            obtain ⟨e2, h0, h1, hK⟩ := h
            refine ⟨_, loc_val hd fun H T μ a w hr' he _ => ?_, hK⟩
            have h4 := he y _ (by simp [Op.operands, ho]) hy
            have h5 := int (he z _ (by simp [Op.operands, ho]) hz)
            generalize hv : a.eval y = v at h4
            cases h4 with
            | ep hb =>
              refine ⟨_, ?_, .ep (idx := n.toNat) (k := 0) hb⟩
              have e3 : i.size = sz := by omega
              simp only [execOp, ho, hv, h5]
              rw [← e3]; have hh := run_indexAt_ar w t e m i hu hi ‹Nat› (0 * i.size + 0) k n h0 h1; rw [Nat.zero_mul, Nat.zero_add, Nat.zero_add] at hh; simp only [Nat.zero_mul, Nat.add_zero]; exact run_v hh
      | _ => exact h.elim
end Go.Proofs.Ytdfolpfibhfmlaa

/- Engine, part E: stores; numbers, comparisons, conversions. -/
namespace Go.Proofs.Ytdfolpfibhfmlaa
set_option linter.unusedSimpArgs false
set_option linter.unusedVariables false
open Go.RowKit

/-! ### store -/
theorem Ev.setRow {w : World} {b : Nat} {arr arr' : Array Value} {t : TypeId} {z : Nat × Nat} (hb : w.heap[b]? = some (.cells arr t z)) (hs : arr'.size = arr.size) : Ev w (w.setRow b arr') (fun c => c = b) := by
  refine ⟨rfl, rfl, rfl, by rw [setRow_size]; exact Nat.le_refl _, fun c _ hn => setRow_other w b c arr' hn, ?_⟩
  rintro c arr0 t0 z0 rfl h0
  rw [hb] at h0; injection h0 with h0; injection h0 with e1 e2 e3; subst e1 e2 e3
  exact ⟨arr', setRow_heap w c arr arr' t z hb, hs⟩

def splice {α : Type} (l : List α) (off : Nat) (m : List α) : List α := l.take off ++ m ++ l.drop (off + m.length)

theorem splice_length {α : Type} (l m : List α) (off : Nat) (h : off + m.length ≤ l.length) : (splice l off m).length = l.length := by
  simp [splice]; omega
theorem splice_get {α : Type} (l m : List α) (off j : Nat) (h : off + m.length ≤ l.length) : (splice l off m)[j]? = if off ≤ j ∧ j < off + m.length then m[j - off]? else l[j]? := by
  unfold splice
  have hl : (l.take off).length = off := by simp; omega
  by_cases h1 : j < off
  · rw [if_neg (by omega), List.append_assoc, List.getElem?_append_left (by omega), List.getElem?_take, if_pos h1]
  · rw [List.append_assoc, List.getElem?_append_right (by omega), hl]
    by_cases h2 : j < off + m.length
    · rw [if_pos (by omega), List.getElem?_append_left (by omega)]
    · rw [if_neg (by omega), List.getElem?_append_right (by omega), List.getElem?_drop]
      congr 1; omega

theorem set_get {α : Type} {l : List α} {i q : Nat} {x y : α} (h : (l.set i x)[q]? = some y) : (q = i ∧ y = x) ∨ l[q]? = some y := by
  rw [List.getElem?_set] at h
  by_cases hq : i = q
  · rw [if_pos hq] at h
    by_cases hl : i < l.length
    · rw [if_pos hl] at h; injection h with h; exact .inl ⟨hq.symm, h.symm⟩
    · rw [if_neg hl] at h; cases h
  · rw [if_neg hq] at h; exact .inr h

def toD : AV → Option D
  | .d x => some x
  | .nil => some (.sl [])
  | _ => none
theorem toD_rep {x : AV} {y : D} (h : toD x = some y) {w : World} {S : Nat → Prop} {μ : Mu} {v : Value} (hr : Rep w S μ x v) : RepD w S y v := by
  cases hr <;> simp [toD] at h
  · subst h; assumption
  · subst h; exact .nil

/-- what a store makes of an object -/
def stV (hs : Nat → Option Ob) (p : AV) (ys : List AV) (K : List (Nat × Option Ob) → List Nat → Prop) : Prop :=
  match p with
  | .ptr i off => match hs i with
    | some (.box t cs) => off + ys.length ≤ cs.length ∧ K [(i, some (.box t (splice cs off ys)))] [i]
    | _ => False
  | .ep i sz idx k => match hs i with
    | some (.rows t sz' rs) => sz' = sz ∧ ∃ r ds, rs[idx]? = some r ∧ ys.mapM toD = some ds ∧ k + ds.length ≤ r.length ∧ K [(i, some (.rows t sz (rs.set idx (splice r k ds))))] [i]
    | _ => False
  | _ => False

theorem run_storeAt {P : Program} {w : World} {b off : Nat} {arr : Array Value} {t t' : TypeId} {v : Value} (hb : w.heap[b]? = some (.cells arr t' (0, 0))) (hsz : (TL P t).ok = true) (hv : v.cells.size = (TL P t).size) (hfit : off + v.cells.size ≤ arr.size)
    (h1 : ∀ u ∈ v.cells, u.oneCell' = true) :
    (Instr.storeAt t (.pointer (some ⟨b, off, none⟩)) v).run P w = .ok () (w.setRow b (splice arr.toList off v.cells.toList).toArray) := by
  obtain ⟨i, d, hi, _, hs, _⟩ := TL_ok hsz
  have := run_storeCells_at P b off t' v.cells.toList 0 arr w hb (by simpa using hfit) (fun u hu => h1 u (by simpa using hu))
  simp only [Nat.add_zero] at this
  have e : v.cells.size = i.size := by omega
  simp [Instr.storeAt, Instr.sureAddr, storeVar, sizeOf, typeInfo, hi, e, this, splice]

theorem loc_store {cx : Cx} {n0 : Nat} {ts : Nat → Option AV} {hs : Nat → Option Ob} {o : Oper} {t : TypeId} {y z : Operand} {p x : AV} {ys : List AV} {K : Eff → Prop} (hd : o.dst = none) (ho : o.op = .store t y z)
    (hy : getT ts y = some p) (hz : getT ts z = some x) (hx : cellsA x = some ys) (hok : (TL cx.P t).ok = true) (hlen : ys.length = (TL cx.P t).size) (h : stV hs p ys fun wr rd => K ⟨.any, [], wr, rd⟩) : ∃ e, LocOp cx n0 ts hs o e ∧ K e := by
  cases p with
  | ptr i off =>
    simp only [stV] at h
    cases hi : hs i with
    | none => simp [hi] at h
    | some ob =>
      cases ob with
      | map _ _ => simp [hi] at h
      | iter _ _ _ _ => simp [hi] at h
      | siter _ _ => simp [hi] at h
      | rows _ _ _ => simp [hi] at h
      | box t' cs =>
        simp only [hi] at h
        obtain ⟨hfit, hK⟩ := h
        refine ⟨_, ?_, hK⟩
        intro H T μ a w K Q hr hT hH hn hk
        have hp := hr.eval (fun t ht => hT t (by simp [Op.operands, ho, ht])) hy
        have hv := hr.eval (fun t ht => hT t (by simp [Op.operands, ho, ht])) hz
        obtain ⟨c1, c2, c3⟩ := cellsA_rep hx hv
        have hHi : H i = some (.box t' cs) := (hH i (by simp)).trans hi
        generalize hpv : a.eval y = pv at hp
        cases hp with
        | ptr hb =>
          rename_i b
          cases hr.ob i _ hHi with
          | box b1 b2 b3 b4 b5 =>
            rename_i b' arr
            rw [hb] at b1; injection b1 with b1; injection b1 with b1; subst b1
            have hrun := run_storeAt b2 hok (c1.trans hlen) (show off + (a.eval z).cells.size ≤ arr.size by rw [c1, b3]; exact hfit) c3
            have hsz : (splice arr.toList off (a.eval z).cells.toList).toArray.size = arr.size := by simp [splice_length, c1, b3, hfit]
            unfold Oper.wp
            simp only [execOp, ho, hpv]
            rw [run_u hrun]
            have hev := Ev.setRow b2 hsz
            have hns : ∀ c, c = b → ¬ cx.Sta H μ w c := fun c hc => hc ▸ hr.notSta (by simp [hHi]) hb
            have key := hr.write (by simp [hHi]) hb n0 (.box t' (splice cs off ys)) .any [i] hev (.box hb (setRow_heap w b arr _ t' _ b2) (by rw [hsz, b3, splice_length _ _ _ hfit]) (fun j x' v hj hv' => ?_) (fun v hv' => ?_))
            · refine hk _ _ μ ?_ (fun _ _ h => h) (fun i h => .inl h)
              have : appT o.dst AV.any T = T := by funext s; simp [appT, hd]
              rw [this, hd]; exact key
            · refine Rep.evolve hev hns (fun _ h => h) (fun _ _ h => h) ?_
              rw [splice_get _ _ _ _ hfit] at hj
              have hj2 : (splice arr.toList off (a.eval z).cells.toList)[j]? = some v := by simpa using hv'
              rw [splice_get _ _ _ _ (by simp [c1, b3, hfit])] at hj2
              simp only [Array.length_toList, c1] at hj2
              split at hj
              · rename_i hc; rw [if_pos hc] at hj2; exact c2 _ x' v hj (by simpa using hj2)
              · rename_i hc; rw [if_neg hc] at hj2; exact b4 _ x' v hj (by simpa using hj2)
            · have hm : v ∈ splice arr.toList off (a.eval z).cells.toList := by simpa using hv'
              unfold splice at hm
              simp only [List.mem_append] at hm
              rcases hm with (hm | hm) | hm
              · exact b5 v (by simpa using List.mem_of_mem_take hm)
              · exact c3 v (by simpa using hm)
              · exact b5 v (by simpa using List.mem_of_mem_drop hm)
  | ep i sz idx k =>
    simp only [stV] at h
    cases hi : hs i with
    | none => simp [hi] at h
    | some ob =>
      cases ob with
      | map _ _ => simp [hi] at h
      | iter _ _ _ _ => simp [hi] at h
      | siter _ _ => simp [hi] at h
      | box _ _ => simp [hi] at h
      | rows t' sz' rs =>
        simp only [hi] at h
        obtain ⟨rfl, r, ds, hrx, hds, hfit, hK⟩ := h
        refine ⟨_, ?_, hK⟩
        intro H T μ a w K Q hr hT hH hn hk
        have hp := hr.eval (fun t ht => hT t (by simp [Op.operands, ho, ht])) hy
        have hv := hr.eval (fun t ht => hT t (by simp [Op.operands, ho, ht])) hz
        obtain ⟨c1, c2, c3⟩ := cellsA_rep hx hv
        obtain ⟨d1, d2⟩ := mapM_get _ _ hds
        have hHi : H i = some (.rows t' sz' rs) := (hH i (by simp)).trans hi
        generalize hpv : a.eval y = pv at hp
        cases hp with
        | ep hb =>
          rename_i b
          cases hr.ob i _ hHi with
          | rowsNil b1 _ => rw [hb] at b1; cases b1
          | rows b1 b2 b3 b4 b5 b6 =>
            rename_i b' arr
            rw [hb] at b1; injection b1 with b1; injection b1 with b1; subst b1
            have hidx : idx < rs.length := (List.getElem?_eq_some_iff.1 hrx).1
            have hrl := b5 idx r hrx
            have hblk : (idx + 1) * sz' ≤ rs.length * sz' := Nat.mul_le_mul_right _ hidx
            rw [Nat.add_mul, Nat.one_mul] at hblk
            have hfit2 : (idx * sz' + k) + (a.eval z).cells.size ≤ arr.size := by rw [c1, ← d1]; omega
            have hrun := run_storeAt b2 hok (c1.trans hlen) hfit2 c3
            have hsz : (splice arr.toList (idx * sz' + k) (a.eval z).cells.toList).toArray.size = arr.size := by
              have := splice_length arr.toList (a.eval z).cells.toList (idx * sz' + k) (by simpa using hfit2)
              simpa using this
            unfold Oper.wp
            simp only [execOp, ho, hpv]
            rw [run_u hrun]
            have hev := Ev.setRow b2 hsz
            have hns : ∀ c, c = b → ¬ cx.Sta H μ w c := fun c hc => hc ▸ hr.notSta (by simp [hHi]) hb
            have key := hr.write (by simp [hHi]) hb n0 (.rows t' sz' (rs.set idx (splice r k ds))) .any [i] hev (.rows hb (setRow_heap w b arr _ t' _ b2) b3 (by rw [hsz, List.length_set]; exact b4) (fun q r' hq => ?_) (fun q j r' x' v hq hj hv' => ?_))
            · refine hk _ _ μ ?_ (fun _ _ h => h) (fun i h => .inl h)
              have : appT o.dst AV.any T = T := by funext s; simp [appT, hd]
              rw [this, hd]; exact key
            · rcases set_get hq with ⟨_, e⟩ | hq
              · rw [e, splice_length _ _ _ hfit]; exact hrl
              · exact b5 q r' hq
            · refine RepD.evolve hev hns (fun _ h => h) ?_
              have hj2 : (splice arr.toList (idx * sz' + k) (a.eval z).cells.toList)[q * sz' + j]? = some v := by simpa using hv'
              rw [splice_get _ _ _ _ (by simpa using hfit2)] at hj2
              simp only [Array.length_toList, c1] at hj2
              have hr'l : r'.length = sz' := by
                rcases set_get hq with ⟨_, e⟩ | hq
                · rw [e, splice_length _ _ _ hfit]; exact hrl
                · exact b5 q r' hq
              have hjl : j < sz' := by rw [← hr'l]; exact (List.getElem?_eq_some_iff.1 hj).1
              by_cases hqi : idx = q
              · subst hqi
                rw [List.getElem?_set, if_pos rfl, if_pos hidx] at hq
                injection hq with hq; subst hq
                rw [splice_get _ _ _ _ hfit] at hj
                by_cases hin : k ≤ j ∧ j < k + ds.length
                · rw [if_pos hin] at hj
                  rw [if_pos (by omega)] at hj2
                  have e : idx * sz' + j - (idx * sz' + k) = j - k := by omega
                  rw [e] at hj2
                  have hlt : j - k < ys.length := by omega
                  exact toD_rep (d2 _ ys[j - k] x' (List.getElem?_eq_getElem hlt) hj) (c2 _ ys[j - k] v (List.getElem?_eq_getElem hlt) (by simpa using hj2))
                · rw [if_neg hin] at hj
                  rw [if_neg (by omega)] at hj2
                  exact b6 idx j r x' v hrx hj (by simpa using hj2)
              · rw [List.getElem?_set, if_neg hqi] at hq
                have hne : ¬ (idx * sz' + k ≤ q * sz' + j ∧ q * sz' + j < idx * sz' + k + ys.length) := by
                  rintro ⟨u1, u2⟩
                  rcases Nat.lt_or_gt_of_ne hqi with hlt | hgt
                  · have : (idx + 1) * sz' ≤ q * sz' := Nat.mul_le_mul_right _ hlt
                    rw [Nat.add_mul, Nat.one_mul] at this; omega
                  · have : (q + 1) * sz' ≤ idx * sz' := Nat.mul_le_mul_right _ hgt
                    rw [Nat.add_mul, Nat.one_mul] at this; omega
                rw [if_neg hne] at hj2
                exact b6 q j r' x' v hq hj (by simpa using hj2)
  | _ => exact h.elim

/-! ### numbers -/
/-- equality at a struct type all cells of which are numbers or truth values of the given kinds -/
def scal (w : World) : List (Option IntKind) → List Value → Prop
  | [], [] => True
  | some k :: ks, v :: vs => (∃ n, v = .int k n) ∧ scal w ks vs
  | none :: ks, v :: vs => (∃ b, v = .bool b) ∧ scal w ks vs
  | _, _ => False

def kindsOf : List AV → Option (List (Option IntKind))
  | [] => some []
  | .d (.int k _) :: l => (kindsOf l).map (some k :: ·)
  | .d (.bool _) :: l => (kindsOf l).map (none :: ·)
  | _ => none

def eqL : List AV → List AV → Bool
  | .d (.int _ a) :: l, .d (.int _ b) :: m => (a == b) && eqL l m
  | .d (.bool a) :: l, .d (.bool b) :: m => (a == b) && eqL l m
  | _, _ => true

def valL : List AV → List Value
  | [] => []
  | .d (.int k n) :: l => .int k n :: valL l
  | .d (.bool b) :: l => .bool b :: valL l
  | _ :: l => undef :: valL l

/-- the type's own equality on such cells (laid once for each type and program) -/
def EqT (P : Program) (t : TypeId) (ks : List (Option IntKind)) : Prop :=
  P.eqGuardType P.depth t = false ∧ ∀ (xs ys : List AV) (w : World), kindsOf xs = some ks → kindsOf ys = some ks →
    (Op.equalIn 10000 t (.agg (valL xs).toArray) (.agg (valL ys).toArray)).run P w = .ok (eqL xs ys) w

def shN (k : IntKind) (b : Int) : Nat := min b.toNat k.bits

/-- a test parts the ways -/
def cmpV (p : Prop) (K : AV → Prop) : Prop := (p → K (.d (.bool true))) ∧ (¬ p → K (.d (.bool false)))
def ncmpV (p : Prop) (K : AV → Prop) : Prop := (p → K (.d (.bool false))) ∧ (¬ p → K (.d (.bool true)))

def eqP : List AV → List AV → Prop
  | .d (.int _ a) :: l, .d (.int _ b) :: m => a = b ∧ eqP l m
  | .d (.bool a) :: l, .d (.bool b) :: m => a = b ∧ eqP l m
  | _, _ => True
theorem eqL_iff : ∀ (l m : List AV), eqL l m = true ↔ eqP l m
  | [], m => by simp [eqL, eqP]
  | x :: l, [] => by cases x <;> first | (rename_i d; cases d <;> simp [eqL, eqP]) | simp [eqL, eqP]
  | x :: l, y :: m => by
    cases x with
    | d x =>
      cases y with
      | d y => cases x <;> cases y <;> simp [eqL, eqP, eqL_iff l m]
      | _ => cases x <;> simp [eqL, eqP]
    | _ => simp [eqL, eqP]

/-- numbers that may or may not fit -/
def fitV (k : IntKind) (n : Int) (K : Int → Prop) : Prop := K (k.wrap n)
def quoV (a b : Int) (K : Int → Prop) : Prop := K (a.tdiv b)
def remV (a b : Int) (K : Int → Prop) : Prop := K (a.tmod b)
def shV (k : IntKind) (b : Int) (K : Nat → Prop) : Prop := K (shN k b)

def lenA : AV → Option Nat
  | .d (.sl rows) => some rows.length
  | .row _ _ _ len => some len
  | .sub _ _ _ len => some len
  | .nil => some 0
  | _ => none

def binV (P : Program) (op : BinOp) (t : TypeId) (x y : AV) (K : AV → Prop) : Prop :=
  match x, y with
  | .d (.int k a), .d (.int k' b) =>
    (match op with
      | .add => k = k' ∧ fitV k (a + b) fun n => K (.d (.int k n))
      | .sub => k = k' ∧ fitV k (a - b) fun n => K (.d (.int k n))
      | .mul => k = k' ∧ fitV k (a * b) fun n => K (.d (.int k n))
      | .quo => k = k' ∧ b ≠ 0 ∧ quoV a b fun q => fitV k q fun n => K (.d (.int k n))
      | .rem => k = k' ∧ b ≠ 0 ∧ remV a b fun n => K (.d (.int k n))
      | .and => k = k' ∧ K (.d (.int k (bits .and k a b)))
      | .or => k = k' ∧ K (.d (.int k (bits .or k a b)))
      | .xor => k = k' ∧ K (.d (.int k (bits .xor k a b)))
      | .andNot => k = k' ∧ K (.d (.int k (bits .andNot k a b)))
      | .shl => 0 ≤ b ∧ shV k b fun s => fitV k (a * 2 ^ s) fun n => K (.d (.int k n))
      | .shr => 0 ≤ b ∧ shV k b fun s => K (.d (.int k (a / 2 ^ s)))
      | .eql => k = k' ∧ cmpV (a = b) K
      | .neq => k = k' ∧ ncmpV (a = b) K
      | .lss => k = k' ∧ cmpV (a < b) K
      | .leq => k = k' ∧ cmpV (a ≤ b) K
      | .gtr => k = k' ∧ cmpV (b < a) K
      | .geq => k = k' ∧ cmpV (b ≤ a) K)
  | .d (.bool a), .d (.bool b) => (TL P t).ok = true ∧ P.underlying t = some .bool ∧ (match op with
      | .eql => K (.d (.bool (a == b)))
      | .neq => K (.d (.bool (a != b)))
      | _ => False)
  | .d (.str a), .d (.str b) => (TL P t).ok = true ∧ P.underlying t = some .string ∧ (match op with
      | .eql => K (.d (.bool (a.toList == b.toList)))
      | .neq => K (.d (.bool (!(a.toList == b.toList))))
      | _ => False)
  | .agg xs, .agg ys => ∃ ks, kindsOf xs = some ks ∧ kindsOf ys = some ks ∧ EqT P t ks ∧ (match op with
      | .eql => cmpV (eqP xs ys) K
      | .neq => ncmpV (eqP xs ys) K
      | _ => False)
  | x, .nil => (TL P t).ok = true ∧ (∃ e, (TL P t).selem = some e) ∧ ∃ n, lenA x = some n ∧ (match op with
      | .eql => K (.tf (n = 0) True)
      | .neq => K (.tf True (n = 0))
      | _ => False)
  | _, _ => False

theorem kinds_rep {w : World} {S : Nat → Prop} {μ : Mu} : ∀ (xs : List AV) (ks : List (Option IntKind)) (vs : List Value), kindsOf xs = some ks → vs.length = xs.length →
    (∀ (j : Nat) (x : AV) (v : Value), xs[j]? = some x → vs[j]? = some v → Rep w S μ x v) → vs = valL xs
  | [], _, vs, _, hl, _ => by simp at hl; subst hl; rfl
  | x :: xs, ks, vs, hk, hl, h => by
    cases vs with
    | nil => simp at hl
    | cons v vs =>
      have ih := fun ks' hk' => kinds_rep xs ks' vs hk' (by simpa using hl) (fun j y u hy hu => h (j + 1) y u (by simpa using hy) (by simpa using hu))
      have h0 := h 0 x v rfl rfl
      cases x with
      | d y =>
        cases y with
        | int k n =>
          simp only [kindsOf] at hk
          cases hk' : kindsOf xs with
          | none => simp [hk'] at hk
          | some ks' => cases h0 with | d h0 => cases h0; rw [ih ks' hk']; rfl
        | bool b =>
          simp only [kindsOf] at hk
          cases hk' : kindsOf xs with
          | none => simp [hk'] at hk
          | some ks' => cases h0 with | d h0 => cases h0; rw [ih ks' hk']; rfl
        | str _ => simp [kindsOf] at hk
        | sl _ => simp [kindsOf] at hk
      | _ => simp [kindsOf] at hk

theorem loc_binOp {cx : Cx} {n0 : Nat} {ts : Nat → Option AV} {hs : Nat → Option Ob} {o : Oper} {op : BinOp} {t t' : TypeId} {y z : Operand} {p q : AV} {K : Eff → Prop} (hd : dstOk cx.n o.dst) (ho : o.op = .binOp op t y z t')
    (hy : getT ts y = some p) (hz : getT ts z = some q) (h : binV cx.P op t p q fun x => K ⟨x, [], [], []⟩) : ∃ e, LocOp cx n0 ts hs o e ∧ K e := by
  have go : ∀ x, K ⟨x, [], [], []⟩ → (∀ (H : Nat → Option Ob) (μ : Mu) (a : Act) (w : World), Rep w (cx.Sta H μ w) μ p (a.eval y) → Rep w (cx.Sta H μ w) μ q (a.eval z) →
      ∃ v, (do eqGuard op t y z (a.eval y) (a.eval z); binOp op t (a.eval y) (a.eval z) : Sem Value).run cx.P w = .ok v w ∧ Rep w (cx.Sta H μ w) μ x v) → ∃ e, LocOp cx n0 ts hs o e ∧ K e := by
    intro x hK hrun
    refine ⟨_, loc_val hd fun H T μ a w hr he _ => ?_, hK⟩
    obtain ⟨v, h1, h2⟩ := hrun H μ a w (he y _ (by simp [Op.operands, ho]) hy) (he z _ (by simp [Op.operands, ho]) hz)
    exact ⟨v, by simp only [execOp, ho]; exact run_v h1, h2⟩
  unfold binV at h
  split at h
  · rename_i k a k' b
    have fin : ∀ x v, K ⟨x, [], [], []⟩ → (∀ w S μ, Rep w S μ x v) → (∀ w : World, (do eqGuard op t y z (.int k a) (.int k' b); binOp op t (.int k a) (.int k' b) : Sem Value).run cx.P w = .ok v w) → ∃ e, LocOp cx n0 ts hs o e ∧ K e := by
      intro x v hK hR hrun
      refine go x hK fun H μ a' w h1 h2 => ⟨v, ?_, hR _ _ _⟩
      generalize a'.eval y = v1 at *
      generalize a'.eval z = v2 at *
      cases h1 with | d h1 => cases h1; cases h2 with | d h2 => cases h2; exact hrun w
    have gd : ∀ (w : World), (eqGuard op t y z (.int k a) (.int k' b)).run cx.P w = .ok () w := fun w => by unfold eqGuard; cases op <;> simp
    have b0 : ∀ (v : Value), (∀ w : World, (binOp op t (.int k a) (.int k' b)).run cx.P w = .ok v w) → ∀ w : World, (do eqGuard op t y z (.int k a) (.int k' b); binOp op t (.int k a) (.int k' b) : Sem Value).run cx.P w = .ok v w := by
      intro v hv w; rw [Sem.run_bind, gd]; simp only [Result.andThen_ok]; exact hv w
    cases op with
    | add => obtain ⟨rfl, hK⟩ := h; exact fin _ _ hK (fun _ _ _ => .d .int) (b0 _ fun w => by simp [binOp, Op.intArith])
    | sub => obtain ⟨rfl, hK⟩ := h; exact fin _ _ hK (fun _ _ _ => .d .int) (b0 _ fun w => by simp [binOp, Op.intArith])
    | mul => obtain ⟨rfl, hK⟩ := h; exact fin _ _ hK (fun _ _ _ => .d .int) (b0 _ fun w => by simp [binOp, Op.intArith])
    | quo => obtain ⟨rfl, h0, hK⟩ := h; exact fin _ _ hK (fun _ _ _ => .d .int) (b0 _ fun w => by simp [binOp, Op.intDiv, h0])
    | rem => obtain ⟨rfl, h0, hK⟩ := h; exact fin _ _ hK (fun _ _ _ => .d .int) (b0 _ fun w => by simp [binOp, Op.intDiv, h0])
    | and => obtain ⟨rfl, hK⟩ := h; exact fin _ _ hK (fun _ _ _ => .d .int) (b0 _ fun w => by simp [binOp, Op.intBits, bits])
    | or => obtain ⟨rfl, hK⟩ := h; exact fin _ _ hK (fun _ _ _ => .d .int) (b0 _ fun w => by simp [binOp, Op.intBits, bits])
    | xor => obtain ⟨rfl, hK⟩ := h; exact fin _ _ hK (fun _ _ _ => .d .int) (b0 _ fun w => by simp [binOp, Op.intBits, bits])
    | andNot => obtain ⟨rfl, hK⟩ := h; exact fin _ _ hK (fun _ _ _ => .d .int) (b0 _ fun w => by simp [binOp, Op.intBits, bits])
    | shl =>
      obtain ⟨h0, hK⟩ := h
      have : ¬ b < 0 := by omega
      exact fin _ _ hK (fun _ _ _ => .d .int) (b0 _ fun w => by simp [binOp, Op.shift, this, shN])
    | shr =>
      obtain ⟨h0, hK⟩ := h
      have : ¬ b < 0 := by omega
      exact fin _ _ hK (fun _ _ _ => .d .int) (b0 _ fun w => by simp [binOp, Op.shift, this, shN]; exact Int.fdiv_eq_ediv_of_nonneg _ (Int.le_of_lt (Int.pow_pos (by decide))))
    | eql =>
      obtain ⟨rfl, hK⟩ := h
      by_cases hc : a = b
      · exact fin _ (.bool true) (hK.1 hc) (fun _ _ _ => .d .bool) (b0 _ fun w => by simp [binOp, Op.intCmp, hc])
      · exact fin _ (.bool false) (hK.2 hc) (fun _ _ _ => .d .bool) (b0 _ fun w => by simp [binOp, Op.intCmp]; omega)
    | neq =>
      obtain ⟨rfl, hK⟩ := h
      by_cases hc : a = b
      · exact fin _ (.bool false) (hK.1 hc) (fun _ _ _ => .d .bool) (b0 _ fun w => by simp [binOp, Op.intCmp, hc])
      · exact fin _ (.bool true) (hK.2 hc) (fun _ _ _ => .d .bool) (b0 _ fun w => by simp [binOp, Op.intCmp]; omega)
    | lss =>
      obtain ⟨rfl, hK⟩ := h
      by_cases hc : a < b
      · exact fin _ (.bool true) (hK.1 hc) (fun _ _ _ => .d .bool) (b0 _ fun w => by simp [binOp, Op.intCmp, hc])
      · exact fin _ (.bool false) (hK.2 hc) (fun _ _ _ => .d .bool) (b0 _ fun w => by simp [binOp, Op.intCmp]; omega)
    | leq =>
      obtain ⟨rfl, hK⟩ := h
      by_cases hc : a ≤ b
      · exact fin _ (.bool true) (hK.1 hc) (fun _ _ _ => .d .bool) (b0 _ fun w => by simp [binOp, Op.intCmp, hc])
      · exact fin _ (.bool false) (hK.2 hc) (fun _ _ _ => .d .bool) (b0 _ fun w => by simp [binOp, Op.intCmp]; omega)
    | gtr =>
      obtain ⟨rfl, hK⟩ := h
      by_cases hc : b < a
      · exact fin _ (.bool true) (hK.1 hc) (fun _ _ _ => .d .bool) (b0 _ fun w => by simp [binOp, Op.intCmp, hc])
      · exact fin _ (.bool false) (hK.2 hc) (fun _ _ _ => .d .bool) (b0 _ fun w => by simp [binOp, Op.intCmp]; omega)
    | geq =>
      obtain ⟨rfl, hK⟩ := h
      by_cases hc : b ≤ a
      · exact fin _ (.bool true) (hK.1 hc) (fun _ _ _ => .d .bool) (b0 _ fun w => by simp [binOp, Op.intCmp, hc])
      · exact fin _ (.bool false) (hK.2 hc) (fun _ _ _ => .d .bool) (b0 _ fun w => by simp [binOp, Op.intCmp]; omega)
  · rename_i a b
    obtain ⟨_, hu, h⟩ := h
    have eqb : ∀ w : World, (Op.equal t (.bool a) (.bool b)).run cx.P w = .ok (a == b) w := fun w => run_equal_bool w t a b hu
    cases op <;> simp only at h <;> try exact h.elim
    all_goals
      refine go _ h fun H μ a' w h1 h2 => ?_
      generalize a'.eval y = v1 at *
      generalize a'.eval z = v2 at *
      cases h1 with | d h1 => cases h1; cases h2 with | d h2 => cases h2; exact ⟨_, by simp only [eqGuard, binOp, Sem.run_bind, eqb]; rfl, .d .bool⟩
  · rename_i a b
    obtain ⟨_, hu, h⟩ := h
    cases op <;> simp only at h <;> try exact h.elim
    all_goals
      refine go _ h fun H μ a' w h1 h2 => ?_
      generalize a'.eval y = v1 at *
      generalize a'.eval z = v2 at *
      cases h1 with | d h1 => cases h1; cases h2 with | d h2 => cases h2; exact ⟨_, by simp [eqGuard, binOp, Sem.run_bind, Op.stringOp], .d .bool⟩
  · rename_i xs ys
    obtain ⟨ks, k1, k2, ⟨hg, heq⟩, h⟩ := h
    have run : ∀ (r : Bool) (op' : BinOp) (H : Nat → Option Ob) (μ : Mu) (a' : Act) (w : World), op = op' → (op' = .eql ∧ eqL xs ys = r ∨ op' = .neq ∧ (!eqL xs ys) = r) → Rep w (cx.Sta H μ w) μ (.agg xs) (a'.eval y) → Rep w (cx.Sta H μ w) μ (.agg ys) (a'.eval z) →
        ∃ v, (do eqGuard op t y z (a'.eval y) (a'.eval z); binOp op t (a'.eval y) (a'.eval z) : Sem Value).run cx.P w = .ok v w ∧ Rep w (cx.Sta H μ w) μ (.d (.bool r)) v := by
      rintro r op' H μ a' w rfl hop h1 h2
      generalize a'.eval y = v1 at *
      generalize a'.eval z = v2 at *
      cases h1 with
      | agg l1 r1 o1 =>
        rename_i vs1
        cases h2 with
        | agg l2 r2 o2 =>
          rename_i vs2
          have e1 := kinds_rep xs ks vs1.toList k1 (by simpa using l1) (fun j x v hx hv => r1 j x v hx (by simpa using hv))
          have e2 := kinds_rep ys ks vs2.toList k2 (by simpa using l2) (fun j x v hx hv => r2 j x v hx (by simpa using hv))
          have e3 : vs1 = (valL xs).toArray := by rw [← e1]
          have e4 : vs2 = (valL ys).toArray := by rw [← e2]
          subst e3 e4
          have eqag : (Op.equal t (.agg (valL xs).toArray) (.agg (valL ys).toArray)).run cx.P w = .ok (eqL xs ys) w := heq xs ys w k1 k2
          rcases hop with ⟨rfl, rfl⟩ | ⟨rfl, rfl⟩
          · exact ⟨_, by rw [Sem.run_bind, run_eqGuard_agg _ _ _ _ _ _ _ hg]; simp only [binOp, Result.andThen_ok, Sem.run_bind, eqag]; rfl, .d .bool⟩
          · exact ⟨_, by rw [Sem.run_bind, run_eqGuard_agg _ _ _ _ _ _ _ hg]; simp only [binOp, Result.andThen_ok, Sem.run_bind, eqag]; rfl, .d .bool⟩
    have hP := eqL_iff xs ys
    cases op <;> simp only at h <;> try exact h.elim
    · by_cases hc : eqP xs ys
      · exact go _ (h.1 hc) fun H μ a' w h1 h2 => run true .eql H μ a' w rfl (.inl ⟨rfl, hP.2 hc⟩) h1 h2
      · exact go _ (h.2 hc) fun H μ a' w h1 h2 => run false .eql H μ a' w rfl (.inl ⟨rfl, by cases he : eqL xs ys <;> simp_all⟩) h1 h2
    · by_cases hc : eqP xs ys
      · exact go _ (h.1 hc) fun H μ a' w h1 h2 => run false .neq H μ a' w rfl (.inr ⟨rfl, by rw [hP.2 hc]; rfl⟩) h1 h2
      · exact go _ (h.2 hc) fun H μ a' w h1 h2 => run true .neq H μ a' w rfl (.inr ⟨rfl, by cases he : eqL xs ys <;> simp_all⟩) h1 h2
  · obtain ⟨hok, ⟨e, hse⟩, n, hn, h⟩ := h
    have hu : cx.P.underlying t = some (.slice e) := TL_selem hok hse
    have key : ∀ (w : World) (S : Nat → Prop) (μ : Mu) (v : Value), Rep w S μ p v → ∃ A c, v = .slice A n c ∧ (A = none → n = 0) := by
      intro w S μ v hr
      cases hr with
      | d hr =>
        cases hr with
        | nil => simp [lenA] at hn; exact ⟨_, _, by rw [← hn], fun _ => hn.symm⟩
        | sl => simp [lenA] at hn; exact ⟨_, _, by rw [← hn], fun h => by cases h⟩
        | _ => simp [lenA] at hn
      | rowNil => simp [lenA] at hn; exact ⟨_, _, by rw [← hn], fun _ => hn.symm⟩
      | row => simp [lenA] at hn; exact ⟨_, _, by rw [← hn], fun h => by cases h⟩
      | subNil => simp [lenA] at hn; exact ⟨_, _, by rw [← hn], fun _ => hn.symm⟩
      | sub => simp [lenA] at hn; exact ⟨_, _, by rw [← hn], fun h => by cases h⟩
      | nil => simp [lenA] at hn; exact ⟨_, _, by rw [← hn], fun _ => hn.symm⟩
      | _ => simp [lenA] at hn
    cases op <;> simp only at h <;> try exact h.elim
    all_goals
      refine go _ h fun H μ a' w h1 h2 => ?_
      obtain ⟨A, c, e1, e2⟩ := key _ _ _ _ h1
      rw [e1]
      generalize a'.eval z = v2 at *
      cases h2
      have he : (Op.equal t (.slice A n c) (.slice none 0 0)).run cx.P w = .ok A.isNone w := by
        unfold Op.equal
        rw [show Op.maxDepth = Op.maxDepth - 1 + 1 from rfl]
        cases A <;> simp [Op.equalIn, run_underlying hu]
    · exact ⟨.bool A.isNone, by simp [eqGuard, binOp, he], .tf (fun hb => e2 (by cases A <;> simp_all)) (fun _ => trivial)⟩
    · exact ⟨.bool !A.isNone, by simp [eqGuard, binOp, he], .tf (fun _ => trivial) (fun hb => e2 (by cases A <;> simp_all))⟩
  · exact h.elim

def unV (op : UnOp) (x : AV) (K : AV → Prop) : Prop :=
  match op, x with
  | .neg, .d (.int k n) => fitV k (0 - n) fun m => K (.d (.int k m))
  | .xor, .d (.int k n) => K (.d (.int k (bits .xor k (if k.signed then -1 else k.max) n)))
  | .not, .d (.bool b) => K (.d (.bool (!b)))
  | _, _ => False

theorem loc_unOp {cx : Cx} {n0 : Nat} {ts : Nat → Option AV} {hs : Nat → Option Ob} {o : Oper} {op : UnOp} {t : TypeId} {y : Operand} {p : AV} {K : Eff → Prop} (hd : dstOk cx.n o.dst) (ho : o.op = .unOp op t y)
    (hy : getT ts y = some p) (h : unV op p fun x => K ⟨x, [], [], []⟩) : ∃ e, LocOp cx n0 ts hs o e ∧ K e := by
  have go : ∀ (d d' : D) (v v' : Value), p = .d d → K ⟨.d d', [], [], []⟩ → (∀ w S, RepD w S d' v') → (∀ w S u, RepD w S d u → u = v) → (∀ w : World, (Op.unary op v).run cx.P w = .ok v' w) → ∃ e, LocOp cx n0 ts hs o e ∧ K e := by
    rintro d d' v v' rfl hK hR hu hrun
    refine ⟨_, loc_val hd fun H T μ a w hr he _ => ?_, hK⟩
    have h1 := he y _ (by simp [Op.operands, ho]) hy
    generalize hv : a.eval y = u at h1
    cases h1 with
    | d h1 =>
      obtain rfl := hu _ _ _ h1
      exact ⟨_, by simp only [execOp, ho, hv]; exact run_v (hrun w), .d (hR _ _)⟩
  unfold unV at h
  split at h
  · rename_i k n; exact go _ _ (.int k n) _ rfl h (fun _ _ => .int) (fun _ _ _ h => by cases h; rfl) (fun w => rfl)
  · rename_i k n; exact go _ _ (.int k n) _ rfl h (fun _ _ => .int) (fun _ _ _ h => by cases h; rfl) (fun w => rfl)
  · rename_i b; exact go _ _ (.bool b) _ rfl h (fun _ _ => .bool) (fun _ _ _ h => by cases h; rfl) (fun w => rfl)
  · exact h.elim

theorem loc_convert {cx : Cx} {n0 : Nat} {ts : Nat → Option AV} {hs : Nat → Option Ob} {o : Oper} {s t : TypeId} {y : Operand} {k k' : IntKind} {n : Int} (hd : dstOk cx.n o.dst) (ho : o.op = .convert s t y)
    (hy : getT ts y = some (.d (.int k n))) (hs1 : (TL cx.P s).ok = true) (ht1 : (TL cx.P t).ok = true) (hk : (TL cx.P t).ik = some k') : LocOp cx n0 ts hs o ⟨.d (.int k' (k'.wrap n)), [], [], []⟩ := by
  obtain ⟨i1, d1, h1, u1, _⟩ := TL_ok hs1
  obtain ⟨i2, d2, h2, u2, _⟩ := TL_ok ht1
  have : d2 = .int k' := by
    unfold TL at hk
    simp only [h2, u2] at hk
    cases d2 <;> simp at hk
    subst hk; rfl
  subst this
  refine loc_val hd fun H T μ a w hr he _ => ?_
  have h3 := he y _ (by simp [Op.operands, ho]) hy
  generalize hv : a.eval y = v at h3
  cases h3 with
  | d h3 =>
    cases h3
    refine ⟨_, ?_, .d .int⟩
    simp only [execOp, ho, hv]
    refine run_v ?_
    unfold convert
    simp only [Sem.run_bind, run_underlying u1, run_underlying u2, Result.andThen_ok]
    cases d1 <;> simp [Conv.intToInt]
end Go.Proofs.Ytdfolpfibhfmlaa
