import Derived.Test.YtpocnjliigjidaaGreatFlAE
import Derived.Test.YtpocnjliigjidaaGreatFlAF
import Derived.Test.YtpocnjliigjidaaGreatPopc
import Derived.Test.YtpocnjliigjidaaGreatFlAD
import Derived.Test.YtpocnjliigjidaaGreatFlI
/- A flat memory: what each operation answers, as data; contracts of both sides. -/
namespace Go.Proofs.YtpocnjliigjidaaGreat
open Go.RowKit
set_option maxRecDepth 100000
set_option linter.unusedSimpArgs false
set_option linter.unusedVariables false
abbrev FSt := List Bool × List Nat × List Cl
abbrev nilF : FSt := ([], [], [])
def fmP (s : FSt) : AV := fm s.1 s.2.1 s.2.2
def hasB (x f t : Nat) : Bool := (List.range (t + 1)).any fun g => decide (f ≤ g) && x.testBit g
def allB (x f t : Nat) : Bool := (List.range (t + 1)).all fun g => decide (g < f) || x.testBit g
theorem hasB_iff {x f t : Nat} : hasB x f t = true ↔ hasM x f t := by
  unfold hasB hasM
  rw [List.any_eq_true]
  constructor
  · rintro ⟨g, hg, h⟩
    simp at hg h
    exact ⟨g, h.1, by omega, h.2⟩
  · rintro ⟨g, h1, h2, h3⟩
    exact ⟨g, by simp; omega, by simp [h1, h3]⟩
theorem allB_iff {x f t : Nat} : allB x f t = true ↔ allM x f t := by
  unfold allB allM
  rw [List.all_eq_true]
  constructor
  · intro h g h1 h2
    have := h g (by simp; omega)
    simp at this
    rcases this with h' | h'
    · omega
    · exact h'
  · intro h g hg
    simp at hg
    by_cases hf : g < f
    · simp [hf]
    · simp [h g (by omega) (by omega)]
def ix (p : Int) : Nat := (p - 1).toNat
theorem ix_succ (k : Nat) : ix ((k : Int) + 1) = k := by unfold ix; omega
def spnF (al : List Bool) (mp : List Nat) (cs : List Cl) (p : Int) : FSt × Int := if askE29 al mp cs p p ≠ 0 then (nilF, askE29 al mp cs p p) else if alv al p = true then (nilF, 7) else ((al.set (ix p) true, mp, cs), 0)
def extF (al : List Bool) (mp : List Nat) (cs : List Cl) (p : Int) : FSt × Int := if lvsE al mp cs [p] ≠ 0 then (nilF, lvsE al mp cs [p]) else ((al.set (ix p) false, mp.set (ix p) 0, woC cs p 0 63), 0)
def mapF (al : List Bool) (mp : List Nat) (cs : List Cl) (p f t : Int) : FSt × Int := if rngE al mp cs p f t ≠ 0 then (nilF, rngE al mp cs p f t) else if hasB (mp[ix p]?.getD 0) f.toNat t.toNat = true then (nilF, 7) else ((al, mp.set (ix p) (mp[ix p]?.getD 0 ||| pgM f.toNat t.toNat), cs), 0)
def unmF (al : List Bool) (mp : List Nat) (cs : List Cl) (p f t : Int) : FSt × Int := if rngE al mp cs p f t ≠ 0 then (nilF, rngE al mp cs p f t) else if allB (mp[ix p]?.getD 0) f.toNat t.toNat = false then (nilF, 6) else ((al, mp.set (ix p) (clr (mp[ix p]?.getD 0) (pgM f.toNat t.toNat)), woC cs p f t), 0)
def wrtF (al : List Bool) (mp : List Nat) (cs : List Cl) (p g w : Int) (v : Nat) : FSt × Int := if mapE al mp cs p g w ≠ 0 then (nilF, mapE al mp cs p g w) else ((al, mp, wrC cs (p, g, w, v)), 0)
def frkF (al : List Bool) (mp : List Nat) (cs : List Cl) (p q : Int) : FSt × Int := if frkE al mp cs p q ≠ 0 then (nilF, frkE al mp cs p q) else ((al.set (ix q) true, mp.set (ix q) (mp[ix p]?.getD 0), forkC cs p q), 0)
theorem frz_ok (al : List Bool) (mp : List Nat) (cs : List Cl) (e : Int) : frz (fmO al mp cs) (.tup [fmR 0 1 2 al mp cs, iv e]) = some (.tup [fm al mp cs, iv e]) := by
  simp [frz, frzA, frzAL, frzL, frz1, List.take_of_length_le]
theorem frz_er (e : Int) : frz [] (.tup [erM, iv e]) = some (.tup [fmP nilF, iv e]) := rfl
def F1S (F : List Bool → List Nat → List Cl → Int → FSt × Int) : Spec := { al := true, rel := fun args ins res outs => ∃ (al : List Bool) (mp : List Nat) (cs : List Cl) (p : Int), U64 mp ∧ al.length ≤ 1000000 ∧ mp.length ≤ 1000000 ∧ cs.length ≤ 400000 ∧ args = [fm al mp cs, iv p] ∧ ins = [] ∧ res = .tup [fmP (F al mp cs p).1, iv (F al mp cs p).2] ∧ outs = [] }
def F2S (F : List Bool → List Nat → List Cl → Int → Int → FSt × Int) : Spec := { al := true, rel := fun args ins res outs => ∃ (al : List Bool) (mp : List Nat) (cs : List Cl) (p q : Int), U64 mp ∧ al.length ≤ 1000000 ∧ mp.length ≤ 1000000 ∧ cs.length ≤ 400000 ∧ args = [fm al mp cs, iv p, iv q] ∧ ins = [] ∧ res = .tup [fmP (F al mp cs p q).1, iv (F al mp cs p q).2] ∧ outs = [] }
def F3S (F : List Bool → List Nat → List Cl → Int → Int → Int → FSt × Int) : Spec := { al := true, rel := fun args ins res outs => ∃ (al : List Bool) (mp : List Nat) (cs : List Cl) (p f t : Int), U64 mp ∧ al.length ≤ 1000000 ∧ mp.length ≤ 1000000 ∧ cs.length ≤ 400000 ∧ args = [fm al mp cs, iv p, iv f, iv t] ∧ ins = [] ∧ res = .tup [fmP (F al mp cs p f t).1, iv (F al mp cs p f t).2] ∧ outs = [] }
def F4S (F : List Bool → List Nat → List Cl → Int → Int → Int → Nat → FSt × Int) : Spec := { al := true, rel := fun args ins res outs => ∃ (al : List Bool) (mp : List Nat) (cs : List Cl) (p g w : Int) (v : Nat), U64 mp ∧ al.length ≤ 1000000 ∧ mp.length ≤ 1000000 ∧ cs.length ≤ 400000 ∧ args = [fm al mp cs, iv p, iv g, iv w, wv (v : Int)] ∧ ins = [] ∧ res = .tup [fmP (F al mp cs p g w v).1, iv (F al mp cs p g w v).2] ∧ outs = [] }
theorem prc_ix {p : Int} (h : Prc p) : ∃ k : Nat, p = (k : Int) + 1 ∧ k < 8 := ⟨(p - 1).toNat, by have := h.1; omega, by have := h.2; omega⟩
theorem ask_z {al : List Bool} {mp : List Nat} {cs : List Cl} {p : Int} (h : askE29 al mp cs p p = 0) : flchk al mp cs = 0 ∧ Prc p := by
  unfold askE29 at h
  by_cases h0 : flchk al mp cs = 0
  · rw [if_neg (by simpa using h0)] at h
    by_cases h1 : Prc p
    · exact ⟨h0, h1⟩
    · rw [if_pos (fun hh => h1 hh.1)] at h; cases h
  · rw [if_pos h0] at h; exact absurd h h0
theorem spn_frz (al : List Bool) (mp : List Nat) (cs : List Cl) (p : Int) (hu : U64 mp) (la : al.length ≤ 1000000) (lm : mp.length ≤ 1000000) (lc : cs.length ≤ 400000) : ∃ res outs, SpnS.rel [fm al mp cs, iv p] [] res outs ∧ frz outs res = some (.tup [fmP (spnF al mp cs p).1, iv (spnF al mp cs p).2]) := by
  unfold spnF
  by_cases h0 : askE29 al mp cs p p = 0
  case neg => rw [if_pos h0]; exact ⟨_, _, .inl ⟨al, mp, cs, p, hu, la, lm, by omega, h0, rfl, rfl, rfl, rfl⟩, frz_er _⟩
  obtain ⟨g0, gp⟩ := ask_z h0
  obtain ⟨k, rfl, hk⟩ := prc_ix gp
  rw [if_neg (fun h => h h0), ix_succ]
  cases hb : alv al ((k : Int) + 1) with
  | true => rw [if_pos rfl]; exact ⟨_, _, .inr (.inl ⟨al, mp, cs, k, g0, hu, by omega, hk, hb, rfl, rfl, rfl, rfl⟩), frz_er _⟩
  | false => rw [if_neg (by decide)]; exact ⟨_, _, .inr (.inr ⟨al, mp, cs, k, g0, hu, by omega, hk, hb, rfl, rfl, rfl, rfl⟩), frz_ok _ _ _ _⟩
theorem ext_frz (al : List Bool) (mp : List Nat) (cs : List Cl) (p : Int) (hu : U64 mp) (la : al.length ≤ 1000000) (lm : mp.length ≤ 1000000) (lc : cs.length ≤ 400000) : ∃ res outs, ExtS.rel [fm al mp cs, iv p] [] res outs ∧ frz outs res = some (.tup [fmP (extF al mp cs p).1, iv (extF al mp cs p).2]) := by
  unfold extF
  by_cases h0 : lvsE al mp cs [p] = 0
  case neg => rw [if_pos h0]; exact ⟨_, _, .inl ⟨al, mp, cs, p, hu, la, lm, by omega, h0, rfl, rfl, rfl, rfl⟩, frz_er _⟩
  obtain ⟨g0, gp, g1⟩ := lvs_zero h0
  obtain ⟨k, rfl, hk⟩ := prc_ix gp
  rw [if_neg (fun h => h h0), ix_succ]
  exact ⟨_, _, .inr ⟨al, mp, cs, k, h0, hu, by omega, rfl, rfl, rfl, rfl⟩, frz_ok _ _ _ _⟩
theorem map_frz (al : List Bool) (mp : List Nat) (cs : List Cl) (p f t : Int) (hu : U64 mp) (la : al.length ≤ 1000000) (lm : mp.length ≤ 1000000) (lc : cs.length ≤ 400000) : ∃ res outs, MapS.rel [fm al mp cs, iv p, iv f, iv t] [] res outs ∧ frz outs res = some (.tup [fmP (mapF al mp cs p f t).1, iv (mapF al mp cs p f t).2]) := by
  unfold mapF
  by_cases h0 : rngE al mp cs p f t = 0
  case neg => rw [if_pos h0]; exact ⟨_, _, .inl ⟨al, mp, cs, p, f, t, hu, la, lm, by omega, h0, rfl, rfl, rfl, rfl⟩, frz_er _⟩
  obtain ⟨g0, f1, f2, f3⟩ := rng_zero h0
  obtain ⟨g1, gp, g2⟩ := lvs_zero g0
  obtain ⟨k, rfl, hk⟩ := prc_ix gp
  obtain ⟨f, rfl⟩ := Int.eq_ofNat_of_zero_le f1
  obtain ⟨t, rfl⟩ := Int.eq_ofNat_of_zero_le (Int.le_trans f1 f2)
  rw [if_neg (fun h => h h0), ix_succ, Int.toNat_natCast, Int.toNat_natCast]
  by_cases hb : hasB (mp[k]?.getD 0) f t = true
  · rw [if_pos hb]; exact ⟨_, _, .inr (.inl ⟨al, mp, cs, k, f, t, hu, by omega, g0, by omega, by omega, hasB_iff.1 hb, rfl, rfl, rfl, rfl⟩), frz_er _⟩
  · rw [if_neg hb]; exact ⟨_, _, .inr (.inr ⟨al, mp, cs, k, f, t, hu, by omega, g0, by omega, by omega, fun h => hb (hasB_iff.2 h), rfl, rfl, rfl, rfl⟩), frz_ok _ _ _ _⟩
theorem unm_frz (al : List Bool) (mp : List Nat) (cs : List Cl) (p f t : Int) (hu : U64 mp) (la : al.length ≤ 1000000) (lm : mp.length ≤ 1000000) (lc : cs.length ≤ 400000) : ∃ res outs, UnmS.rel [fm al mp cs, iv p, iv f, iv t] [] res outs ∧ frz outs res = some (.tup [fmP (unmF al mp cs p f t).1, iv (unmF al mp cs p f t).2]) := by
  unfold unmF
  by_cases h0 : rngE al mp cs p f t = 0
  case neg => rw [if_pos h0]; exact ⟨_, _, .inl ⟨al, mp, cs, p, f, t, hu, la, lm, by omega, h0, rfl, rfl, rfl, rfl⟩, frz_er _⟩
  obtain ⟨g0, f1, f2, f3⟩ := rng_zero h0
  obtain ⟨g1, gp, g2⟩ := lvs_zero g0
  obtain ⟨k, rfl, hk⟩ := prc_ix gp
  obtain ⟨f, rfl⟩ := Int.eq_ofNat_of_zero_le f1
  obtain ⟨t, rfl⟩ := Int.eq_ofNat_of_zero_le (Int.le_trans f1 f2)
  rw [if_neg (fun h => h h0), ix_succ, Int.toNat_natCast, Int.toNat_natCast]
  by_cases hb : allB (mp[k]?.getD 0) f t = true
  · rw [if_neg (by rw [hb]; decide)]; exact ⟨_, _, .inr (.inr ⟨al, mp, cs, k, f, t, hu, by omega, g0, by omega, by omega, allB_iff.1 hb, rfl, rfl, rfl, rfl⟩), frz_ok _ _ _ _⟩
  · rw [if_pos (by simpa using hb)]; exact ⟨_, _, .inr (.inl ⟨al, mp, cs, k, f, t, hu, by omega, g0, by omega, by omega, fun h => hb (allB_iff.2 h), rfl, rfl, rfl, rfl⟩), frz_er _⟩
theorem wrt_frz (al : List Bool) (mp : List Nat) (cs : List Cl) (p g w : Int) (v : Nat) (hu : U64 mp) (la : al.length ≤ 1000000) (lm : mp.length ≤ 1000000) (lc : cs.length ≤ 400000) : ∃ res outs, WrtS.rel [fm al mp cs, iv p, iv g, iv w, wv (v : Int)] [] res outs ∧ frz outs res = some (.tup [fmP (wrtF al mp cs p g w v).1, iv (wrtF al mp cs p g w v).2]) := by
  unfold wrtF
  by_cases h0 : mapE al mp cs p g w = 0
  case neg => rw [if_pos h0]; exact ⟨_, _, .inl ⟨al, mp, cs, p, g, w, v, hu, la, lm, by omega, h0, rfl, rfl, rfl, rfl⟩, frz_er _⟩
  rw [if_neg (fun h => h h0)]
  exact ⟨_, _, .inr ⟨al, mp, cs, p, g, w, v, hu, by omega, h0, rfl, rfl, rfl, rfl⟩, frz_ok _ _ _ _⟩
theorem frk_frz (al : List Bool) (mp : List Nat) (cs : List Cl) (p q : Int) (hu : U64 mp) (la : al.length ≤ 1000000) (lm : mp.length ≤ 1000000) (lc : cs.length ≤ 400000) : ∃ res outs, FrkS.rel [fm al mp cs, iv p, iv q] [] res outs ∧ frz outs res = some (.tup [fmP (frkF al mp cs p q).1, iv (frkF al mp cs p q).2]) := by
  unfold frkF
  by_cases h0 : frkE al mp cs p q = 0
  case neg => rw [if_pos h0]; exact ⟨_, _, .inl ⟨al, mp, cs, p, q, hu, la, lm, by omega, h0, rfl, rfl, rfl, rfl⟩, frz_er _⟩
  obtain ⟨g0, gp, gq, g1, g2, g3⟩ := frk_zero h0
  obtain ⟨k, rfl, hk⟩ := prc_ix gp
  obtain ⟨j, rfl, hj⟩ := prc_ix gq
  rw [if_neg (fun h => h h0), ix_succ, ix_succ]
  exact ⟨_, _, .inr ⟨al, mp, cs, k, j, hu, lc, h0, rfl, rfl, rfl, rfl⟩, frz_ok _ _ _ _⟩
abbrev SpnFS : Spec := F1S spnF
theorem SpnF_at (al : List Bool) (mp : List Nat) (cs : List Cl) (p : Int) (hu : U64 mp) (la : al.length ≤ 1000000) (lm : mp.length ≤ 1000000) (lc : cs.length ≤ 400000) : SpnFS.rel [fm al mp cs, iv p] [] (.tup [fmP (spnF al mp cs p).1, iv (spnF al mp cs p).2]) [] := ⟨al, mp, cs, p, hu, la, lm, lc, rfl, rfl, rfl, rfl⟩
theorem SpnF_ok : Ok Tryz.prog 121 SpnFS := by
  refine ok_frz Spn_ok SpnFS rfl ?_
  rintro args ins res outs ⟨al, mp, cs, p, hu, la, lm, lc, rfl, rfl, rfl, rfl⟩
  obtain ⟨r, o, h1, h2⟩ := spn_frz al mp cs p hu la lm lc
  exact ⟨rfl, rfl, r, o, h1, h2⟩
abbrev rSpnFS : Spec := F1S spnF
theorem rSpnF_at (al : List Bool) (mp : List Nat) (cs : List Cl) (p : Int) (hu : U64 mp) (la : al.length ≤ 1000000) (lm : mp.length ≤ 1000000) (lc : cs.length ≤ 400000) : rSpnFS.rel [fm al mp cs, iv p] [] (.tup [fmP (spnF al mp cs p).1, iv (spnF al mp cs p).2]) [] := ⟨al, mp, cs, p, hu, la, lm, lc, rfl, rfl, rfl, rfl⟩
theorem rSpnF_ok : Ok Tryz.prog 129 rSpnFS := by
  refine ok_frz rSpn_ok rSpnFS rfl ?_
  rintro args ins res outs ⟨al, mp, cs, p, hu, la, lm, lc, rfl, rfl, rfl, rfl⟩
  obtain ⟨r, o, h1, h2⟩ := spn_frz al mp cs p hu la lm lc
  exact ⟨rfl, rfl, r, o, h1, h2⟩
abbrev ExtFS : Spec := F1S extF
theorem ExtF_at (al : List Bool) (mp : List Nat) (cs : List Cl) (p : Int) (hu : U64 mp) (la : al.length ≤ 1000000) (lm : mp.length ≤ 1000000) (lc : cs.length ≤ 400000) : ExtFS.rel [fm al mp cs, iv p] [] (.tup [fmP (extF al mp cs p).1, iv (extF al mp cs p).2]) [] := ⟨al, mp, cs, p, hu, la, lm, lc, rfl, rfl, rfl, rfl⟩
theorem ExtF_ok : Ok Tryz.prog 122 ExtFS := by
  refine ok_frz Ext_ok ExtFS rfl ?_
  rintro args ins res outs ⟨al, mp, cs, p, hu, la, lm, lc, rfl, rfl, rfl, rfl⟩
  obtain ⟨r, o, h1, h2⟩ := ext_frz al mp cs p hu la lm lc
  exact ⟨rfl, rfl, r, o, h1, h2⟩
abbrev rExtFS : Spec := F1S extF
theorem rExtF_at (al : List Bool) (mp : List Nat) (cs : List Cl) (p : Int) (hu : U64 mp) (la : al.length ≤ 1000000) (lm : mp.length ≤ 1000000) (lc : cs.length ≤ 400000) : rExtFS.rel [fm al mp cs, iv p] [] (.tup [fmP (extF al mp cs p).1, iv (extF al mp cs p).2]) [] := ⟨al, mp, cs, p, hu, la, lm, lc, rfl, rfl, rfl, rfl⟩
theorem rExtF_ok : Ok Tryz.prog 126 rExtFS := by
  refine ok_frz rExt_ok rExtFS rfl ?_
  rintro args ins res outs ⟨al, mp, cs, p, hu, la, lm, lc, rfl, rfl, rfl, rfl⟩
  obtain ⟨r, o, h1, h2⟩ := ext_frz al mp cs p hu la lm lc
  exact ⟨rfl, rfl, r, o, h1, h2⟩
abbrev MapFS : Spec := F3S mapF
theorem MapF_at (al : List Bool) (mp : List Nat) (cs : List Cl) (p f t : Int) (hu : U64 mp) (la : al.length ≤ 1000000) (lm : mp.length ≤ 1000000) (lc : cs.length ≤ 400000) : MapFS.rel [fm al mp cs, iv p, iv f, iv t] [] (.tup [fmP (mapF al mp cs p f t).1, iv (mapF al mp cs p f t).2]) [] := ⟨al, mp, cs, p, f, t, hu, la, lm, lc, rfl, rfl, rfl, rfl⟩
theorem MapF_ok : Ok Tryz.prog 114 MapFS := by
  refine ok_frz Map_ok MapFS rfl ?_
  rintro args ins res outs ⟨al, mp, cs, p, f, t, hu, la, lm, lc, rfl, rfl, rfl, rfl⟩
  obtain ⟨r, o, h1, h2⟩ := map_frz al mp cs p f t hu la lm lc
  exact ⟨rfl, rfl, r, o, h1, h2⟩
abbrev rMapFS : Spec := F3S mapF
theorem rMapF_at (al : List Bool) (mp : List Nat) (cs : List Cl) (p f t : Int) (hu : U64 mp) (la : al.length ≤ 1000000) (lm : mp.length ≤ 1000000) (lc : cs.length ≤ 400000) : rMapFS.rel [fm al mp cs, iv p, iv f, iv t] [] (.tup [fmP (mapF al mp cs p f t).1, iv (mapF al mp cs p f t).2]) [] := ⟨al, mp, cs, p, f, t, hu, la, lm, lc, rfl, rfl, rfl, rfl⟩
theorem rMapF_ok : Ok Tryz.prog 124 rMapFS := by
  refine ok_frz rMap_ok rMapFS rfl ?_
  rintro args ins res outs ⟨al, mp, cs, p, f, t, hu, la, lm, lc, rfl, rfl, rfl, rfl⟩
  obtain ⟨r, o, h1, h2⟩ := map_frz al mp cs p f t hu la lm lc
  exact ⟨rfl, rfl, r, o, h1, h2⟩
abbrev UnmFS : Spec := F3S unmF
theorem UnmF_at (al : List Bool) (mp : List Nat) (cs : List Cl) (p f t : Int) (hu : U64 mp) (la : al.length ≤ 1000000) (lm : mp.length ≤ 1000000) (lc : cs.length ≤ 400000) : UnmFS.rel [fm al mp cs, iv p, iv f, iv t] [] (.tup [fmP (unmF al mp cs p f t).1, iv (unmF al mp cs p f t).2]) [] := ⟨al, mp, cs, p, f, t, hu, la, lm, lc, rfl, rfl, rfl, rfl⟩
theorem UnmF_ok : Ok Tryz.prog 115 UnmFS := by
  refine ok_frz Unm_ok UnmFS rfl ?_
  rintro args ins res outs ⟨al, mp, cs, p, f, t, hu, la, lm, lc, rfl, rfl, rfl, rfl⟩
  obtain ⟨r, o, h1, h2⟩ := unm_frz al mp cs p f t hu la lm lc
  exact ⟨rfl, rfl, r, o, h1, h2⟩
abbrev rUnmFS : Spec := F3S unmF
theorem rUnmF_at (al : List Bool) (mp : List Nat) (cs : List Cl) (p f t : Int) (hu : U64 mp) (la : al.length ≤ 1000000) (lm : mp.length ≤ 1000000) (lc : cs.length ≤ 400000) : rUnmFS.rel [fm al mp cs, iv p, iv f, iv t] [] (.tup [fmP (unmF al mp cs p f t).1, iv (unmF al mp cs p f t).2]) [] := ⟨al, mp, cs, p, f, t, hu, la, lm, lc, rfl, rfl, rfl, rfl⟩
theorem rUnmF_ok : Ok Tryz.prog 125 rUnmFS := by
  refine ok_frz rUnm_ok rUnmFS rfl ?_
  rintro args ins res outs ⟨al, mp, cs, p, f, t, hu, la, lm, lc, rfl, rfl, rfl, rfl⟩
  obtain ⟨r, o, h1, h2⟩ := unm_frz al mp cs p f t hu la lm lc
  exact ⟨rfl, rfl, r, o, h1, h2⟩
abbrev WrtFS : Spec := F4S wrtF
theorem WrtF_at (al : List Bool) (mp : List Nat) (cs : List Cl) (p g w : Int) (v : Nat) (hu : U64 mp) (la : al.length ≤ 1000000) (lm : mp.length ≤ 1000000) (lc : cs.length ≤ 400000) : WrtFS.rel [fm al mp cs, iv p, iv g, iv w, wv (v : Int)] [] (.tup [fmP (wrtF al mp cs p g w v).1, iv (wrtF al mp cs p g w v).2]) [] := ⟨al, mp, cs, p, g, w, v, hu, la, lm, lc, rfl, rfl, rfl, rfl⟩
theorem WrtF_ok : Ok Tryz.prog 119 WrtFS := by
  refine ok_frz Wrt_ok WrtFS rfl ?_
  rintro args ins res outs ⟨al, mp, cs, p, g, w, v, hu, la, lm, lc, rfl, rfl, rfl, rfl⟩
  obtain ⟨r, o, h1, h2⟩ := wrt_frz al mp cs p g w v hu la lm lc
  exact ⟨rfl, rfl, r, o, h1, h2⟩
abbrev rWrtFS : Spec := F4S wrtF
theorem rWrtF_at (al : List Bool) (mp : List Nat) (cs : List Cl) (p g w : Int) (v : Nat) (hu : U64 mp) (la : al.length ≤ 1000000) (lm : mp.length ≤ 1000000) (lc : cs.length ≤ 400000) : rWrtFS.rel [fm al mp cs, iv p, iv g, iv w, wv (v : Int)] [] (.tup [fmP (wrtF al mp cs p g w v).1, iv (wrtF al mp cs p g w v).2]) [] := ⟨al, mp, cs, p, g, w, v, hu, la, lm, lc, rfl, rfl, rfl, rfl⟩
theorem rWrtF_ok : Ok Tryz.prog 128 rWrtFS := by
  refine ok_frz rWrt_ok rWrtFS rfl ?_
  rintro args ins res outs ⟨al, mp, cs, p, g, w, v, hu, la, lm, lc, rfl, rfl, rfl, rfl⟩
  obtain ⟨r, o, h1, h2⟩ := wrt_frz al mp cs p g w v hu la lm lc
  exact ⟨rfl, rfl, r, o, h1, h2⟩
abbrev FrkFS : Spec := F2S frkF
theorem FrkF_at (al : List Bool) (mp : List Nat) (cs : List Cl) (p q : Int) (hu : U64 mp) (la : al.length ≤ 1000000) (lm : mp.length ≤ 1000000) (lc : cs.length ≤ 400000) : FrkFS.rel [fm al mp cs, iv p, iv q] [] (.tup [fmP (frkF al mp cs p q).1, iv (frkF al mp cs p q).2]) [] := ⟨al, mp, cs, p, q, hu, la, lm, lc, rfl, rfl, rfl, rfl⟩
theorem FrkF_ok : Ok Tryz.prog 120 FrkFS := by
  refine ok_frz Frk_ok FrkFS rfl ?_
  rintro args ins res outs ⟨al, mp, cs, p, q, hu, la, lm, lc, rfl, rfl, rfl, rfl⟩
  obtain ⟨r, o, h1, h2⟩ := frk_frz al mp cs p q hu la lm lc
  exact ⟨rfl, rfl, r, o, h1, h2⟩
abbrev rFrkFS : Spec := F2S frkF
theorem rFrkF_at (al : List Bool) (mp : List Nat) (cs : List Cl) (p q : Int) (hu : U64 mp) (la : al.length ≤ 1000000) (lm : mp.length ≤ 1000000) (lc : cs.length ≤ 400000) : rFrkFS.rel [fm al mp cs, iv p, iv q] [] (.tup [fmP (frkF al mp cs p q).1, iv (frkF al mp cs p q).2]) [] := ⟨al, mp, cs, p, q, hu, la, lm, lc, rfl, rfl, rfl, rfl⟩
theorem rFrkF_ok : Ok Tryz.prog 130 rFrkFS := by
  refine ok_frz rFrk_ok rFrkFS rfl ?_
  rintro args ins res outs ⟨al, mp, cs, p, q, hu, la, lm, lc, rfl, rfl, rfl, rfl⟩
  obtain ⟨r, o, h1, h2⟩ := frk_frz al mp cs p q hu la lm lc
  exact ⟨rfl, rfl, r, o, h1, h2⟩
end Go.Proofs.YtpocnjliigjidaaGreat
namespace Go.Proofs.YtpocnjliigjidaaGreat
open Go.RowKit
set_option maxRecDepth 100000
set_option linter.unusedSimpArgs false
set_option linter.unusedVariables false
def zC (cs : List Cl) (p : Int) : List Cl := (ofP cs p).map (cpC 0)
end Go.Proofs.YtpocnjliigjidaaGreat
namespace Go.Proofs.YtpocnjliigjidaaGreat
open Go.RowKit
set_option maxRecDepth 100000
theorem bef_irr (a : Cl) : ¬ Bef a a := by unfold Bef; omega
theorem srt_ext : ∀ {a b : List Cl}, Srt a → Srt b → (∀ c, c ∈ a ↔ c ∈ b) → a = b
  | [], [], _, _, _ => rfl
  | [], y :: b, _, _, h => absurd ((h y).2 (by simp)) (by simp)
  | x :: a, [], _, _, h => absurd ((h x).1 (by simp)) (by simp)
  | x :: a, y :: b, ha, hb, h => by
    obtain ⟨a1, a2⟩ := List.pairwise_cons.1 ha
    obtain ⟨b1, b2⟩ := List.pairwise_cons.1 hb
    have hxy : x = y := by
      rcases List.mem_cons.1 ((h x).1 (by simp)) with e | hx
      · exact e
      · rcases List.mem_cons.1 ((h y).2 (by simp)) with e | hy
        · exact e.symm
        · exact absurd (bef_trans (b1 x hx) (a1 y hy)) (bef_irr _)
    subst hxy
    rw [srt_ext a2 b2 fun c => ⟨fun hc => ?_, fun hc => ?_⟩]
    · rcases List.mem_cons.1 ((h c).1 (by simp [hc])) with rfl | h'
      · exact absurd (a1 _ hc) (bef_irr _)
      · exact h'
    · rcases List.mem_cons.1 ((h c).2 (by simp [hc])) with rfl | h'
      · exact absurd (b1 _ hc) (bef_irr _)
      · exact h'
theorem flchk_wrd {al : List Bool} {mp : List Nat} {cs : List Cl} (h : flchk al mp cs = 0) : ∀ c ∈ cs, Wrd c.2.2.1 := fun c hc => (ck1_zero (flchk_pgs h c hc)).2.2.1
theorem rdV_iff {al : List Bool} {mp : List Nat} {cs : List Cl} (h : flchk al mp cs = 0) {p g : Int} {w v : Nat} (hw : w < 8) (hv : v ≠ 0) : rdV cs p g w = v ↔ (p, g, (w : Int), v) ∈ cs := by
  have hs := flchk_srt h
  have hW := flchk_wrd h
  constructor
  · intro hr
    by_cases hc : ∃ hh : posK cs p g w < cs.length, kc cs[posK cs p g w] p g w = 0
    · obtain ⟨h1, h2⟩ := hc
      rw [rdV_hit hs hW hw h1 h2] at hr
      obtain ⟨e1, e2, e3⟩ := kc_zero.1 h2
      have hm := List.getElem_mem h1
      generalize cs[posK cs p g w] = x at *
      obtain ⟨x1, x2, x3, x4⟩ := x
      dsimp only at hr e1 e2 e3
      subst hr e1 e2 e3
      exact hm
    · rw [rdV_miss hs hW hw hc] at hr
      exact absurd hr.symm hv
  · intro hc
    obtain ⟨i, hi, he⟩ := List.getElem_of_mem hc
    rw [rdV_hit hs hW hw hi (kc_zero.2 (by rw [he]; exact ⟨rfl, rfl, rfl⟩)), he]
theorem mem_zC {cs : List Cl} {p : Int} {c : Cl} : c ∈ zC cs p ↔ c.1 = 0 ∧ (p, c.2) ∈ cs := by
  unfold zC ofP
  rw [List.mem_map]
  constructor
  · rintro ⟨d, hd, rfl⟩
    obtain ⟨d1, d2⟩ := List.mem_filter.1 hd
    have : d.1 = p := by simpa using d2
    subst this
    exact ⟨rfl, d1⟩
  · rintro ⟨h1, h2⟩
    obtain ⟨c1, c2⟩ := c
    exact ⟨(p, c2), List.mem_filter.2 ⟨h2, by simp⟩, by dsimp only at h1; rw [h1]; rfl⟩
theorem zC_srt {cs : List Cl} (h : Srt cs) (p : Int) : Srt (zC cs p) := by
  unfold zC Srt
  rw [List.pairwise_map]
  have hp : (ofP cs p).Pairwise Bef := List.Pairwise.sublist List.filter_sublist h
  refine List.Pairwise.imp_of_mem (fun {a b} ha hb hab => ?_) hp
  have a1 := (List.mem_filter.1 ha).2
  have b1 := (List.mem_filter.1 hb).2
  simp only [decide_eq_true_eq] at a1 b1
  unfold Bef cpC at *
  dsimp only
  omega
def pcO (al : List Bool) (mp : List Nat) (cs : List Cl) (p g : Int) : List Nat := if mapE al mp cs p g 0 = 0 then pgC cs p g else [0, 0, 0, 0, 0, 0, 0, 0]
end Go.Proofs.YtpocnjliigjidaaGreat
