/- A flat memory: the kit's copies and compares, New of both sides; by the engine. -/
import Derived.Test.YtnclclpfmldocaaFlG
import Derived.Test.YtnclclpfmldocaaFlE
import Derived.ChangeKeysEq
import Derived.Laws.StructEq
namespace Go.Proofs.Ytnclclpfmldocaa
open Go.RowKit
set_option maxRecDepth 100000
set_option linter.unusedSimpArgs false
set_option linter.unusedVariables false

theorem eqt_cell : EqT Try.prog 91 [some .i64, some .i64, some .i64, some .u64] := by
  refine ⟨by kernel_rfl, fun xs ys w hx hy => ?_⟩
  obtain ⟨a, _, rfl, h1⟩ := kinds_int hx
  obtain ⟨b, _, rfl, h2⟩ := kinds_int h1
  obtain ⟨c, _, rfl, h3⟩ := kinds_int h2
  obtain ⟨d, _, rfl, h4⟩ := kinds_int h3
  obtain rfl := kinds_nil h4
  obtain ⟨a', _, rfl, g1⟩ := kinds_int hy
  obtain ⟨b', _, rfl, g2⟩ := kinds_int g1
  obtain ⟨c', _, rfl, g3⟩ := kinds_int g2
  obtain ⟨d', _, rfl, g4⟩ := kinds_int g3
  obtain rfl := kinds_nil g4
  clear h1 h2 h3 h4 g1 g2 g3 g4 hx hy
  have u3 := Try.underlying3
  have u5 := Try.underlying22
  have a3 := Try.isAgg3
  have a5 := Try.isAgg22
  have a52 := Try.isAgg89
  have hS : Try.prog.underlying 91 = some (.struct (Try.prog.fieldsOf 91)) := by kernel_rfl
  have hS2 : Try.prog.underlying 89 = some (.struct (Try.prog.fieldsOf 89)) := by kernel_rfl
  have hp : Try.prog.stoodInHeld 91 = false := by kernel_rfl
  have hp2 : Try.prog.stoodInHeld 89 = false := by kernel_rfl
  rw [show (10000 : Nat) = 9999 + 1 from rfl, run_equalIn_agg w 9999 91 _ _ hS hp]
  simp only [Program.fieldsOf, Try.underlying91, valL]
  have e2 : ∀ (x y x' y' : Int), (Op.equalIn 9999 89 (.agg #[.int .i64 x, .int .i64 y]) (.agg #[.int .i64 x', .int .i64 y'])).run Try.prog w = .ok (x == x' && y == y') w := by
    intro x y x' y'
    rw [show (9999 : Nat) = 9998 + 1 from rfl, run_equalIn_agg w 9998 89 _ _ hS2 hp2]
    simp only [Program.fieldsOf, Try.underlying89]
    go_simp
    by_cases h1 : x = x' <;> by_cases h2 : y = y' <;> simp [h1, h2]
  have e3 : ∀ (x x' : Int), (Op.equalIn 9999 3 (.int .i64 x) (.int .i64 x')).run Try.prog w = .ok (x == x') w := fun x x' => run_equalIn_int w 9998 3 .i64 .i64 x x' u3
  have e4 : ∀ (x x' : Int), (Op.equalIn 9999 22 (.int .u64 x) (.int .u64 x')).run Try.prog w = .ok (x == x') w := fun x x' => run_equalIn_int w 9998 22 .u64 .u64 x x' u5
  generalize (9999 : Nat) = m at e2 e3 e4 ⊢
  go_simp
  by_cases h1 : a = a' <;> by_cases h2 : b = b' <;> by_cases h3 : c = c' <;> by_cases h4 : d = d' <;> simp [eqL, e2, e3, e4, h1, h2, h3, h4]
theorem ne_take {α : Type} {a b : List α} {i : Nat} (h1 : i < a.length) (h2 : i < b.length) (h : a[i] ≠ b[i]) : a ≠ b := fun e => h (by subst e; rfl)
theorem eq_get {α : Type} {a b : List α} (hl : a.length = b.length) (h : ∀ j (h1 : j < a.length) (h2 : j < b.length), a[j] = b[j]) : a = b := List.ext_getElem hl fun j h1 h2 => h j h1 h2
def SmbS : Spec := { rel := fun args ins res outs => ∃ (a b : List Bool), a.length ≤ 1000000 ∧ b.length ≤ 1000000 ∧ args = [.d (.sl (a.map encDB)), .d (.sl (b.map encDB))] ∧ ins = [] ∧ res = bv (decide (a = b)) ∧ outs = [] }
theorem Smb_at (a b : List Bool) (h1 : a.length ≤ 1000000) (h2 : b.length ≤ 1000000) : SmbS.rel [.d (.sl (a.map encDB)), .d (.sl (b.map encDB))] [] (bv (decide (a = b))) [] := ⟨a, b, h1, h2, rfl, rfl, rfl, rfl⟩
def SmwS : Spec := { rel := fun args ins res outs => ∃ (a b : List Nat), a.length ≤ 1000000 ∧ b.length ≤ 1000000 ∧ args = [.d (.sl (a.map encU)), .d (.sl (b.map encU))] ∧ ins = [] ∧ res = bv (decide (a = b)) ∧ outs = [] }
theorem Smw_at (a b : List Nat) (h1 : a.length ≤ 1000000) (h2 : b.length ≤ 1000000) : SmwS.rel [.d (.sl (a.map encU)), .d (.sl (b.map encU))] [] (bv (decide (a = b))) [] := ⟨a, b, h1, h2, rfl, rfl, rfl, rfl⟩
def SmfS : Spec := { rel := fun args ins res outs => ∃ (al al' : List Bool) (mp mp' : List Nat) (cs cs' : List Cl), al.length ≤ 1000000 ∧ al'.length ≤ 1000000 ∧ mp.length ≤ 1000000 ∧ mp'.length ≤ 1000000 ∧ cs.length ≤ 1000000 ∧ cs'.length ≤ 1000000 ∧ args = [fm al mp cs, fm al' mp' cs'] ∧ ins = [] ∧ res = bv (decide (al = al' ∧ mp = mp' ∧ cs = cs')) ∧ outs = [] }
theorem Smf_at (al al' : List Bool) (mp mp' : List Nat) (cs cs' : List Cl) (h1 : al.length ≤ 1000000) (h2 : al'.length ≤ 1000000) (h3 : mp.length ≤ 1000000) (h4 : mp'.length ≤ 1000000) (h5 : cs.length ≤ 1000000) (h6 : cs'.length ≤ 1000000) : SmfS.rel [fm al mp cs, fm al' mp' cs'] [] (bv (decide (al = al' ∧ mp = mp' ∧ cs = cs'))) [] := ⟨al, al', mp, mp', cs, cs', h1, h2, h3, h4, h5, h6, rfl, rfl, rfl, rfl⟩
def OwwS : Spec := { rel := fun args ins res outs => ∃ c : List Nat, c.length ≤ 1000000 ∧ args = [.d (.sl (c.map encU))] ∧ ins = [] ∧ res = .row 0 1 0 c.length ∧ outs = [.rows 22 1 (c.map encU)] }
theorem Oww_at (c : List Nat) (h : c.length ≤ 1000000) : OwwS.rel [.d (.sl (c.map encU))] [] (.row 0 1 0 c.length) [.rows 22 1 (c.map encU)] := ⟨c, h, rfl, rfl, rfl, rfl⟩
def OwfS : Spec := { al := true, rel := fun args ins res outs => ∃ (al : List Bool) (mp : List Nat) (cs : List Cl), al.length ≤ 1000000 ∧ mp.length ≤ 1000000 ∧ cs.length ≤ 1000000 ∧ args = [fm al mp cs] ∧ ins = [] ∧ res = fmR 0 1 2 al mp cs ∧ outs = fmO al mp cs }
/-- a flat memory's rows as data -/
theorem frz_fm (al : List Bool) (mp : List Nat) (cs : List Cl) : frz (fmO al mp cs) (fmR 0 1 2 al mp cs) = some (fm al mp cs) := by
  simp [frz, frzA, frzAL, frzL, frz1, List.take_of_length_le]
def OwfFS : Spec := { al := true, rel := fun args ins res outs => ∃ (al : List Bool) (mp : List Nat) (cs : List Cl), al.length ≤ 1000000 ∧ mp.length ≤ 1000000 ∧ cs.length ≤ 1000000 ∧ args = [fm al mp cs] ∧ ins = [] ∧ res = fm al mp cs ∧ outs = [] }
theorem OwfF_at (al : List Bool) (mp : List Nat) (cs : List Cl) (h1 : al.length ≤ 1000000) (h2 : mp.length ≤ 1000000) (h3 : cs.length ≤ 1000000) : OwfFS.rel [fm al mp cs] [] (fm al mp cs) [] := ⟨al, mp, cs, h1, h2, h3, rfl, rfl, rfl, rfl⟩
abbrev al0 : List Bool := [false, false, false, false, false, false, false, false]
abbrev mp0 : List Nat := [0, 0, 0, 0, 0, 0, 0, 0]
def NewS : Spec := { al := true, rel := fun args ins res outs => args = [] ∧ ins = [] ∧ res = .agg [.row 0 1 0 8, .row 1 1 0 8, .nil] ∧ outs = [.rows 4 1 (al0.map encDB), .rows 22 1 (mp0.map encU)] }
theorem New_ok : Ok Try.prog 17 NewS := by
  refine fn_ok NewS Try.func17 rfl rfl ?_
  rintro args ins res outs ⟨rfl, rfl, rfl, rfl⟩
  refine ⟨by simp [Try.ntmps17], fun w0 V Bo mu0 => ?_⟩
  repeat' (first
    | (with_reducible first | refine W_seq ?_ | refine endQ_ret ?_ | refine endQ_normal ?_)
    | ((with_reducible first | refine hK _ ?_ | refine hK _ _ ?_); clear hK K)
    | ((first | (with_reducible first | refine ops_cons (fun K hK => ?_) | refine opsd_cons (fun K hK => ?_) | refine ops_nil ?_) | ((with_reducible refine opsd_nil ?_); refine And.intro (by kernel_rfl) ?_) | (with_reducible first | refine W_reg [(0, [0]), (1, [0])] ?_ | refine W_drw [(0, [0]), (1, [0])] (by kernel_rfl) ?_ | refine end_at0 ?_) | (with_reducible refine And.intro (fun h => ?_) (fun h => ?_)) | (with_reducible refine And.intro (by omega) ?_)); (try simp only [go_sem, seval, reduceCtorEq, Try.ntmps17, Try.results17, NewS]))
    | fail)
  refine W_ret (endQ_ret (end_at [1, 2] ?_))
  simp [go_sem, Try.results17, NewS, encDB, encU]
def NewFS : Spec := { al := true, rel := fun args ins res outs => args = [] ∧ ins = [] ∧ res = fm al0 mp0 [] ∧ outs = [] }
theorem NewF_at : NewFS.rel [] [] (fm al0 mp0 []) [] := ⟨rfl, rfl, rfl, rfl⟩
abbrev rNewFS : Spec := NewFS
theorem rNewF_at : rNewFS.rel [] [] (fm al0 mp0 []) [] := ⟨rfl, rfl, rfl, rfl⟩
theorem NewF_ok : Ok Try.prog 17 NewFS := by
  refine ok_frz New_ok NewFS rfl ?_
  rintro args ins res outs ⟨rfl, rfl, rfl, rfl⟩
  exact ⟨rfl, rfl, _, _, ⟨rfl, rfl, rfl, rfl⟩, rfl⟩
end Go.Proofs.Ytnclclpfmldocaa
