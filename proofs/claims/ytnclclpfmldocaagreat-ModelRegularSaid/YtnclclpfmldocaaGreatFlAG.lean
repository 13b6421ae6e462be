/- A flat memory: slices.Equal at cells; Same, by the engine. -/
import Derived.Test.YtnclclpfmldocaaGreatFlAF
import Derived.Test.YtnclclpfmldocaaGreatFlAD
namespace Go.Proofs.YtnclclpfmldocaaGreat
open Go.RowKit
set_option maxRecDepth 100000
set_option linter.unusedSimpArgs false
set_option linter.unusedVariables false

theorem rep_two {w : World} {S : Nat → Prop} {μ : Mu} {p q : Int} {v : Value} (h : Rep w S μ (.agg [iv p, iv q]) v) : v = .agg #[.int .i64 p, .int .i64 q] := by
  cases h with
  | agg h1 h2 h3 =>
    rename_i vs
    have := kinds_rep (w := w) (S := S) (μ := μ) [iv p, iv q] [some .i64, some .i64] vs.toList rfl (by simpa using h1) (fun j x v hx hv => h2 j x v hx (by simpa using hv))
    have e : vs = (valL [iv p, iv q]).toArray := by rw [← this]
    rw [e]; rfl
def EqcS : Spec := { rel := fun args ins res outs => ∃ (a b : List Cl), a.length ≤ 1000000 ∧ b.length ≤ 1000000 ∧ args = [.d (.sl (a.map encCl)), .d (.sl (b.map encCl))] ∧ ins = [] ∧ res = bv (decide (a = b)) ∧ outs = [] }
theorem Eqc_at (a b : List Cl) (h1 : a.length ≤ 1000000) (h2 : b.length ≤ 1000000) : EqcS.rel [.d (.sl (a.map encCl)), .d (.sl (b.map encCl))] [] (bv (decide (a = b))) [] := ⟨a, b, h1, h2, rfl, rfl, rfl, rfl⟩
/-- the cells of a process, without its number -/
def zC (cs : List Cl) (p : Int) : List Cl := (ofP cs p).map (cpC 0)
theorem zC_yes {cs : List Cl} {p : Int} {i : Nat} (h : i < cs.length) (hp : cs[i].1 = p) : zC (cs.take (i + 1)) p = zC (cs.take i) p ++ [cpC 0 cs[i]] := by
  unfold zC ofP
  rw [take_get cs i h, List.filter_append, List.filter_cons_of_pos (by simpa using hp), List.filter_nil, List.map_append]
  rfl
theorem zC_no {cs : List Cl} {p : Int} {i : Nat} (h : i < cs.length) (hp : cs[i].1 ≠ p) : zC (cs.take (i + 1)) p = zC (cs.take i) p := by
  unfold zC ofP
  rw [take_get cs i h, List.filter_append, List.filter_cons_of_neg (by simpa using hp), List.filter_nil, List.append_nil]
theorem zC_len (cs : List Cl) (p : Int) : (zC cs p).length ≤ cs.length := by
  unfold zC ofP
  rw [List.length_map]
  exact List.length_filter_le _ _
def smB (mp : List Nat) (cs : List Cl) (p q : Int) : Bool := decide (mp[(p - 1).toNat]?.getD 0 = mp[(q - 1).toNat]?.getD 0 ∧ zC cs p = zC cs q)
def SmeS : Spec := { rel := fun args ins res outs => ∃ (al : List Bool) (mp : List Nat) (cs : List Cl) (p q : Int), U64 mp ∧ al.length ≤ 1000000 ∧ mp.length ≤ 1000000 ∧ cs.length ≤ 900000 ∧ args = [fm al mp cs, iv p, iv q] ∧ ins = [] ∧ res = .tup [bv (if lvsE al mp cs [p, q] = 0 then smB mp cs p q else false), iv (lvsE al mp cs [p, q])] ∧ outs = [] }
theorem Sme_at (al : List Bool) (mp : List Nat) (cs : List Cl) (p q : Int) (hu : U64 mp) (h1 : al.length ≤ 1000000) (h2 : mp.length ≤ 1000000) (h3 : cs.length ≤ 900000) : SmeS.rel [fm al mp cs, iv p, iv q] [] (.tup [bv (if lvsE al mp cs [p, q] = 0 then smB mp cs p q else false), iv (lvsE al mp cs [p, q])]) [] := ⟨al, mp, cs, p, q, hu, h1, h2, h3, rfl, rfl, rfl, rfl⟩
theorem lvs2_zero {al : List Bool} {mp : List Nat} {cs : List Cl} {p q : Int} (h : lvsE al mp cs [p, q] = 0) : flchk al mp cs = 0 ∧ (Prc p ∧ Prc q) ∧ alv al p = true ∧ alv al q = true := by
  unfold lvsE at h
  by_cases h0 : flchk al mp cs = 0
  · rw [if_neg (by simpa using h0)] at h
    simp only [List.any_cons, List.any_nil, Bool.or_false] at h
    by_cases h1 : Prc p
    · by_cases h2 : Prc q
      · rw [decide_eq_true h1, decide_eq_true h2, if_neg (by decide)] at h
        cases hb : alv al p with
        | true =>
          cases hc : alv al q with
          | true => exact ⟨h0, ⟨h1, h2⟩, rfl, rfl⟩
          | false => rw [hb, hc] at h; simp at h
        | false => rw [hb] at h; simp at h
      · rw [decide_eq_false h2] at h; simp at h
    · rw [decide_eq_false h1] at h; simp at h
  · rw [if_pos h0] at h; exact absurd h h0
end Go.Proofs.YtnclclpfmldocaaGreat
