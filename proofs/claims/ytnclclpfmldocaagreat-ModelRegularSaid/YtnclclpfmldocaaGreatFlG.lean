import Derived.Test.YtnclclpfmldocaaGreatFlE

/- A flat memory: the specification's own, Spawn, without, Exit; by the engine. -/
namespace Go.Proofs.YtnclclpfmldocaaGreat
open Go.RowKit
set_option maxRecDepth 100000
set_option linter.unusedSimpArgs false
set_option linter.unusedVariables false

abbrev fmR (a b c : Nat) (al : List Bool) (mp : List Nat) (cs : List Cl) : AV := .agg [.row a 1 0 al.length, .row b 1 0 mp.length, .row c 4 0 cs.length]
abbrev fmO (al : List Bool) (mp : List Nat) (cs : List Cl) : List Ob := [.rows 4 1 (al.map encDB), .rows 29 1 (mp.map encU), .rows 98 4 (cs.map encCl)]
theorem idx_map2 {α : Type} {enc : α → List D} {l : List α} {k : Nat} {K : List D → List D → Prop} (h : k < l.length) (hk : ∃ ds, K (enc l[k]) ds) : ∃ r ds, (l.map enc)[k]? = some r ∧ K r ds := by
  obtain ⟨ds, hd⟩ := hk
  exact ⟨_, ds, by rw [List.getElem?_map, List.getElem?_eq_getElem h]; rfl, hd⟩
theorem encDB_len (b : Bool) : (encDB b).length = 1 := rfl
def ownS : Spec := { al := true, rel := fun args ins res outs => ∃ (al : List Bool) (mp : List Nat) (cs : List Cl), al.length ≤ 1000000 ∧ mp.length ≤ 1000000 ∧ cs.length ≤ 1000000 ∧ args = [fm al mp cs] ∧ ins = [] ∧ res = fmR 0 1 2 al mp cs ∧ outs = fmO al mp cs }
theorem own_at (al : List Bool) (mp : List Nat) (cs : List Cl) (h1 : al.length ≤ 1000000) (h2 : mp.length ≤ 1000000) (h3 : cs.length ≤ 1000000) : ownS.rel [fm al mp cs] [] (fmR 0 1 2 al mp cs) (fmO al mp cs) := ⟨al, mp, cs, h1, h2, h3, rfl, rfl, rfl, rfl⟩
abbrev ownFS : Spec := { al := true, rel := fun args ins res outs => ins = [] ∧ outs = [] ∧ ∃ res' outs', ownS.rel args [] res' outs' ∧ frz outs' res' = some res }
def rSpnS : Spec := { al := true, rel := fun args ins res outs => (∃ (al : List Bool) (mp : List Nat) (cs : List Cl) (p : Int), U64 mp ∧ al.length ≤ 1000000 ∧ mp.length ≤ 1000000 ∧ cs.length ≤ 1000000 ∧ askE29 al mp cs p p ≠ 0 ∧ args = [fm al mp cs, iv p] ∧ ins = [] ∧ res = .tup [.agg [.nil, .nil, .nil], iv (askE29 al mp cs p p)] ∧ outs = []) ∨
  (∃ (al : List Bool) (mp : List Nat) (cs : List Cl) (k : Nat), flchk al mp cs = 0 ∧ U64 mp ∧ cs.length ≤ 1000000 ∧ k < 8 ∧ alv al ((k : Int) + 1) = true ∧ args = [fm al mp cs, iv ((k : Int) + 1)] ∧ ins = [] ∧ res = .tup [.agg [.nil, .nil, .nil], iv 7] ∧ outs = []) ∨
  (∃ (al : List Bool) (mp : List Nat) (cs : List Cl) (k : Nat), flchk al mp cs = 0 ∧ U64 mp ∧ cs.length ≤ 1000000 ∧ k < 8 ∧ alv al ((k : Int) + 1) = false ∧ args = [fm al mp cs, iv ((k : Int) + 1)] ∧ ins = [] ∧ res = .tup [fmR 0 1 2 (al.set k true) mp cs, iv 0] ∧ outs = fmO (al.set k true) mp cs) }
theorem ask_zero {al : List Bool} {mp : List Nat} {cs : List Cl} {k : Nat} (h : flchk al mp cs = 0) (hk : k < 8) : askE29 al mp cs ((k : Int) + 1) ((k : Int) + 1) = 0 := by
  unfold askE29
  rw [if_neg (by simpa using h), if_neg]
  intro hh
  exact hh ⟨⟨by omega, by omega⟩, ⟨by omega, by omega⟩⟩
end Go.Proofs.YtnclclpfmldocaaGreat

/- A flat memory: the specification's without, Exit; by the engine. -/
namespace Go.Proofs.YtnclclpfmldocaaGreat
open Go.RowKit
set_option maxRecDepth 100000
set_option linter.unusedSimpArgs false
set_option linter.unusedVariables false

def inR (p f t : Int) (c : Cl) : Bool := decide (c.1 = p) && (decide (f ≤ c.2.1) && decide (c.2.1 ≤ t))
def woC (cs : List Cl) (p f t : Int) : List Cl := cs.filter fun c => !inR p f t c
def woS : Spec := { al := true, rel := fun args ins res outs => ∃ (al : List Bool) (mp : List Nat) (cs : List Cl) (p f t : Int), al.length ≤ 1000000 ∧ mp.length ≤ 1000000 ∧ cs.length ≤ 1000000 ∧ args = [fm al mp cs, iv p, iv f, iv t] ∧ ins = [] ∧ res = fmR 0 1 2 al mp (woC cs p f t) ∧ outs = fmO al mp (woC cs p f t) }
theorem wo_at (al : List Bool) (mp : List Nat) (cs : List Cl) (p f t : Int) (h1 : al.length ≤ 1000000) (h2 : mp.length ≤ 1000000) (h3 : cs.length ≤ 1000000) : woS.rel [fm al mp cs, iv p, iv f, iv t] [] (fmR 0 1 2 al mp (woC cs p f t)) (fmO al mp (woC cs p f t)) := ⟨al, mp, cs, p, f, t, h1, h2, h3, rfl, rfl, rfl, rfl⟩
def fmN : AV := .agg [.nil, .nil, .nil]
def rExtS : Spec := { al := true, rel := fun args ins res outs => (∃ (al : List Bool) (mp : List Nat) (cs : List Cl) (p : Int), U64 mp ∧ al.length ≤ 1000000 ∧ mp.length ≤ 1000000 ∧ cs.length ≤ 1000000 ∧ lvsE al mp cs [p] ≠ 0 ∧ args = [fm al mp cs, iv p] ∧ ins = [] ∧ res = .tup [.agg [.nil, .nil, .nil], iv (lvsE al mp cs [p])] ∧ outs = []) ∨
  (∃ (al : List Bool) (mp : List Nat) (cs : List Cl) (k : Nat), lvsE al mp cs [(k : Int) + 1] = 0 ∧ U64 mp ∧ cs.length ≤ 1000000 ∧ args = [fm al mp cs, iv ((k : Int) + 1)] ∧ ins = [] ∧ res = .tup [fmR 0 1 2 (al.set k false) (mp.set k 0) (woC cs ((k : Int) + 1) 0 63), iv 0] ∧ outs = fmO (al.set k false) (mp.set k 0) (woC cs ((k : Int) + 1) 0 63)) }
end Go.Proofs.YtnclclpfmldocaaGreat
