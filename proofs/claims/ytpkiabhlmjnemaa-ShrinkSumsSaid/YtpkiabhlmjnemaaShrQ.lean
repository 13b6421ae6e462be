/- Frozen results of the changes; ShrinkChanges, by the engine. -/
import Derived.Test.YtpkiabhlmjnemaaShrN
import Derived.Test.YtpkiabhlmjnemaaShrG
namespace Go.Proofs.Ytpkiabhlmjnemaa
open Go.RowKit
set_option maxRecDepth 100000
set_option linter.unusedSimpArgs false
set_option linter.unusedVariables false

def addL (l : List O) (o : O) : List O := if addE l o = 0 then l ++ [o] else []
def AddFS : Spec := { al := true, rel := fun args ins res outs => ∃ (l : List O) (o : O), l.length ≤ 1000000 ∧ args = [dO l, ov o] ∧ ins = [] ∧ res = .tup [dO (addL l o), iv (addE l o)] ∧ outs = [] }
theorem AddF_at (l : List O) (o : O) (h : l.length ≤ 1000000) : AddFS.rel [dO l, ov o] [] (.tup [dO (addL l o), iv (addE l o)]) [] := ⟨l, o, h, rfl, rfl, rfl, rfl⟩
theorem AddF_ok : Ok Try.prog 26 AddFS := by
  refine ok_frz Add_ok AddFS rfl ?_
  rintro args ins res outs ⟨l, o, hl, rfl, rfl, rfl, rfl⟩
  exact ⟨rfl, rfl, _, _, ⟨l, o, hl, rfl, rfl, rfl, rfl⟩, frz_rsl ..⟩
abbrev rAddFS : Spec := AddFS
theorem rAddF_at (l : List O) (o : O) (h : l.length ≤ 1000000) : rAddFS.rel [dO l, ov o] [] (.tup [dO (addL l o), iv (addE l o)]) [] := ⟨l, o, h, rfl, rfl, rfl, rfl⟩
theorem rAddF_ok : Ok Try.prog 27 rAddFS := by
  refine ok_frz rAdd_ok rAddFS rfl ?_
  rintro args ins res outs ⟨l, o, hl, rfl, rfl, rfl, rfl⟩
  exact ⟨rfl, rfl, _, _, ⟨l, o, hl, rfl, rfl, rfl, rfl⟩, frz_rsl ..⟩

def drpL (l : List O) (a : Int) : List O := if (chk l).1 ≠ 0 then [] else match ageI l a with
  | some i => l.eraseIdx i
  | none => []
def drpO (l : List O) (a : Int) : O := if (chk l).1 ≠ 0 then (0, 0, 0) else match ageI l a with
  | some i => l[i]?.getD (0, 0, 0)
  | none => (0, 0, 0)
def DropFS : Spec := { al := true, rel := fun args ins res outs => ∃ (l : List O) (a : Int), l.length ≤ 1000000 ∧ args = [dO l, wv a] ∧ ins = [] ∧ res = .tup [dO (drpL l a), ov (drpO l a), iv (drpE l a)] ∧ outs = [] }
theorem DropF_at (l : List O) (a : Int) (h : l.length ≤ 1000000) : DropFS.rel [dO l, wv a] [] (.tup [dO (drpL l a), ov (drpO l a), iv (drpE l a)]) [] := ⟨l, a, h, rfl, rfl, rfl, rfl⟩
theorem drop_frz {f : FuncId} (h : Ok Try.prog f DropS) : Ok Try.prog f DropFS := by
  refine ok_frz h DropFS rfl ?_
  rintro args ins res outs ⟨l, a, hl, rfl, rfl, rfl, rfl⟩
  refine ⟨rfl, rfl, ?_⟩
  by_cases hc : (chk l).1 = 0
  · cases hi : ageI l a with
    | none =>
      have e1 : drpE l a = 6 := by simp [drpE, hc, hi]
      refine ⟨_, _, ⟨l, a, hl, rfl, rfl, .inl ⟨by rw [e1]; decide, rfl, rfl⟩⟩, ?_⟩
      simp [frz, frzA, frzAL, frzL, frz1, drpL, drpO, hc, hi]
    | some i =>
      have hlt : i < l.length := by
        unfold ageI at hi
        rw [List.findIdx?_eq_some_iff_getElem] at hi
        exact hi.1
      have e1 : drpE l a = 0 := by simp [drpE, hc, hi]
      refine ⟨_, _, ⟨l, a, hl, rfl, rfl, .inr ⟨i, hlt, hc, hi, rfl, rfl⟩⟩, ?_⟩
      have hle : (l.eraseIdx i).length = l.length - 1 := by simp [List.length_eraseIdx, hlt]
      simp [frz, frzA, frzAL, frzL, frz1, drpL, drpO, e1, hc, hi, hlt, hle, List.take_of_length_le]
  · have e1 : drpE l a = (chk l).1 := by simp [drpE, hc]
    refine ⟨_, _, ⟨l, a, hl, rfl, rfl, .inl ⟨by rw [e1]; exact hc, rfl, rfl⟩⟩, ?_⟩
    simp [frz, frzA, frzAL, frzL, frz1, drpL, drpO, hc]
theorem DropF_ok : Ok Try.prog 28 DropFS := drop_frz Drop_ok
abbrev rDropFS : Spec := DropFS
theorem rDropF_at (l : List O) (a : Int) (h : l.length ≤ 1000000) : rDropFS.rel [dO l, wv a] [] (.tup [dO (drpL l a), ov (drpO l a), iv (drpE l a)]) [] := ⟨l, a, h, rfl, rfl, rfl, rfl⟩
theorem rDropF_ok : Ok Try.prog 29 rDropFS := drop_frz rDrop_ok

def oldL (l : List O) (n : Int) : List O := if oldE l n = 0 then l.take n.toNat else []
def OldestFS : Spec := { al := true, rel := fun args ins res outs => ∃ (l : List O) (n : Int), l.length ≤ 1000000 ∧ args = [dO l, iv n] ∧ ins = [] ∧ res = .tup [dO (oldL l n), iv (oldE l n)] ∧ outs = [] }
theorem OldestF_at (l : List O) (n : Int) (h : l.length ≤ 1000000) : OldestFS.rel [dO l, iv n] [] (.tup [dO (oldL l n), iv (oldE l n)]) [] := ⟨l, n, h, rfl, rfl, rfl, rfl⟩
theorem OldestF_ok : Ok Try.prog 16 OldestFS := by
  refine ok_frz Oldest_ok OldestFS rfl ?_
  rintro args ins res outs ⟨l, o, hl, rfl, rfl, rfl, rfl⟩
  exact ⟨rfl, rfl, _, _, ⟨l, o, hl, rfl, rfl, rfl, rfl⟩, frz_rsl ..⟩
abbrev rOldestFS : Spec := OldestFS
theorem rOldestF_at (l : List O) (n : Int) (h : l.length ≤ 1000000) : rOldestFS.rel [dO l, iv n] [] (.tup [dO (oldL l n), iv (oldE l n)]) [] := ⟨l, n, h, rfl, rfl, rfl, rfl⟩
theorem rOldestF_ok : Ok Try.prog 19 rOldestFS := by
  refine ok_frz rOldest_ok rOldestFS rfl ?_
  rintro args ins res outs ⟨l, o, hl, rfl, rfl, rfl, rfl⟩
  exact ⟨rfl, rfl, _, _, ⟨l, o, hl, rfl, rfl, rfl, rfl⟩, frz_rsl ..⟩
def cntL (l : List O) : List Int := if (chk l).1 = 0 then cnts l else []
def CountsFS : Spec := { al := true, rel := fun args ins res outs => ∃ l : List O, l.length ≤ 1000000 ∧ args = [dO l] ∧ ins = [] ∧ res = .tup [dI (cntL l), iv (chk l).1] ∧ outs = [] }
theorem CountsF_at (l : List O) (h : l.length ≤ 1000000) : CountsFS.rel [dO l] [] (.tup [dI (cntL l), iv (chk l).1]) [] := ⟨l, h, rfl, rfl, rfl, rfl⟩
theorem CountsF_ok : Ok Try.prog 12 CountsFS := by
  refine ok_frz Counts_ok CountsFS rfl ?_
  rintro args ins res outs ⟨l, hl, rfl, rfl, rfl, rfl⟩
  exact ⟨rfl, rfl, _, _, ⟨l, hl, rfl, rfl, rfl, rfl⟩, frz_rsl ..⟩
abbrev rCountsFS : Spec := CountsFS
theorem rCountsF_at (l : List O) (h : l.length ≤ 1000000) : rCountsFS.rel [dO l] [] (.tup [dI (cntL l), iv (chk l).1]) [] := ⟨l, h, rfl, rfl, rfl, rfl⟩
theorem rCountsF_ok : Ok Try.prog 21 rCountsFS := by
  refine ok_frz rCounts_ok rCountsFS rfl ?_
  rintro args ins res outs ⟨l, hl, rfl, rfl, rfl, rfl⟩
  exact ⟨rfl, rfl, _, _, ⟨l, hl, rfl, rfl, rfl, rfl⟩, frz_rsl ..⟩
theorem cntL_len (l : List O) : (cntL l).length ≤ 1000000 := by unfold cntL; split <;> simp [cnts]
theorem addL_len {l : List O} {o : O} (h : l.length ≤ 260) : (addL l o).length ≤ 1000000 := by unfold addL; split <;> simp; omega
theorem drpL_len {l : List O} {a : Int} (h : l.length ≤ 260) : (drpL l a).length ≤ 1000000 := by
  unfold drpL
  split
  · simp
  · split
    · have := List.length_eraseIdx_le l ‹Nat›; omega
    · simp
theorem oldL_len {l : List O} {n : Int} (h : l.length ≤ 260) : (oldL l n).length ≤ 1000000 := by unfold oldL; split <;> simp; omega
end Go.Proofs.Ytpkiabhlmjnemaa
