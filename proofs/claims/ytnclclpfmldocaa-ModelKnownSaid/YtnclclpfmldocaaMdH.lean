import Derived.Test.YtnclclpfmldocaaMdF
import Derived.Test.YtnclclpfmldocaaMdC

/- A story's validity; copies of slices, of stories; the beginning; the table of rules. -/
namespace Go.Proofs.Ytnclclpfmldocaa
open Go.RowKit
set_option maxRecDepth 100000
set_option linter.unusedSimpArgs false
set_option linter.unusedVariables false

/-- a story as data -/
abbrev syA (s : Sy) : AV := .agg [.d (.sl (s.m.1.map encDB)), .d (.sl (s.m.2.1.map encU)), .d (.sl (s.m.2.2.map encCl)), .d (.sl (s.W.map encU)), wv (s.L : Int)]
def IxW (l : List Nat) (v : Nat) : Int := match l.findIdx? (fun x => decide (v = x)) with
  | some i => (i : Int)
  | none => -1
def IxWS : Spec := { rel := fun args ins res outs => ∃ (l : List Nat) (v : Nat), l.length ≤ 1000000 ∧ args = [.d (.sl (l.map encU)), wv (v : Int)] ∧ ins = [] ∧ res = iv (IxW l v) ∧ outs = [] }
theorem IxW_at (l : List Nat) (v : Nat) (h : l.length ≤ 1000000) {b : Int} (hb : IxW l v = b) : IxWS.rel [.d (.sl (l.map encU)), wv (v : Int)] [] (iv b) [] := ⟨l, v, h, rfl, rfl, by rw [hb], rfl⟩
theorem ixW_nn (l : List Nat) (v : Nat) : l.contains v = decide (0 ≤ IxW l v) := by
  unfold IxW
  cases h : l.findIdx? (fun x => decide (v = x)) with
  | none =>
    rw [List.findIdx?_eq_none_iff] at h
    have : ¬ v ∈ l := fun hm => by have := h v hm; simp at this
    simpa using this
  | some i =>
    obtain ⟨h1, h2, _⟩ := List.findIdx?_eq_some_iff_getElem.1 h
    simp only [decide_eq_true_eq] at h2
    have : v ∈ l := h2 ▸ List.getElem_mem h1
    simp [this]
def CnWS : Spec := { rel := fun args ins res outs => ∃ (l : List Nat) (v : Nat), l.length ≤ 1000000 ∧ args = [.d (.sl (l.map encU)), wv (v : Int)] ∧ ins = [] ∧ res = bv (l.contains v) ∧ outs = [] }
theorem CnW_at (l : List Nat) (v : Nat) (h : l.length ≤ 1000000) {b : Bool} (hb : l.contains v = b) : CnWS.rel [.d (.sl (l.map encU)), wv (v : Int)] [] (bv b) [] := ⟨l, v, h, rfl, rfl, by rw [hb], rfl⟩
def twcS : Spec := { rel := fun args ins res outs => ∃ (W : List Nat), W.length ≤ 1000000 ∧ args = [.d (.sl (W.map encU))] ∧ ins = [] ∧ res = bv (twc W) ∧ outs = [] }
theorem twc_at (W : List Nat) (h : W.length ≤ 1000000) {b : Bool} (hb : twc W = b) : twcS.rel [.d (.sl (W.map encU))] [] (bv b) [] := ⟨W, h, rfl, rfl, by rw [hb], rfl⟩
def CkyS : Spec := { rel := fun args ins res outs => ∃ s : Sy, U64 s.m.2.1 ∧ s.m.1.length ≤ 1000000 ∧ s.m.2.1.length ≤ 1000000 ∧ s.m.2.2.length ≤ 1000000 ∧ s.W.length ≤ 1000000 ∧ args = [syA s] ∧ ins = [] ∧ res = iv (sye s) ∧ outs = [] }
theorem Cky_at (s : Sy) (h1 : U64 s.m.2.1) (h2 : s.m.1.length ≤ 1000000) (h3 : s.m.2.1.length ≤ 1000000) (h4 : s.m.2.2.length ≤ 1000000) (h5 : s.W.length ≤ 1000000) {e : Int} (he : sye s = e) : CkyS.rel [syA s] [] (iv e) [] := ⟨s, h1, h2, h3, h4, h5, rfl, rfl, by rw [he], rfl⟩
end Go.Proofs.Ytnclclpfmldocaa

/- Copies of slices, of stories; the beginning; the table of rules. -/
namespace Go.Proofs.Ytnclclpfmldocaa
open Go.RowKit
set_option maxRecDepth 100000
set_option linter.unusedSimpArgs false
set_option linter.unusedVariables false

def SoBS : Spec := { rel := fun args ins res outs => ∃ c : List Bool, c.length ≤ 1000000 ∧ args = [.d (.sl (c.map encDB))] ∧ ins = [] ∧ res = .row 0 1 0 c.length ∧ outs = [.rows 4 1 (c.map encDB)] }
theorem SoB_at (c : List Bool) (h : c.length ≤ 1000000) : SoBS.rel [.d (.sl (c.map encDB))] [] (.row 0 1 0 c.length) [.rows 4 1 (c.map encDB)] := ⟨c, h, rfl, rfl, rfl, rfl⟩
def SoBFS : Spec := { al := true, rel := fun args ins res outs => ∃ c : List Bool, c.length ≤ 1000000 ∧ args = [.d (.sl (c.map encDB))] ∧ ins = [] ∧ res = .d (.sl (c.map encDB)) ∧ outs = [] }
theorem SoBF_at (c : List Bool) (h : c.length ≤ 1000000) : SoBFS.rel [.d (.sl (c.map encDB))] [] (.d (.sl (c.map encDB))) [] := ⟨c, h, rfl, rfl, rfl, rfl⟩
def SoWS : Spec := { rel := fun args ins res outs => ∃ c : List Nat, c.length ≤ 1000000 ∧ args = [.d (.sl (c.map encU))] ∧ ins = [] ∧ res = .row 0 1 0 c.length ∧ outs = [.rows 22 1 (c.map encU)] }
theorem SoW_at (c : List Nat) (h : c.length ≤ 1000000) : SoWS.rel [.d (.sl (c.map encU))] [] (.row 0 1 0 c.length) [.rows 22 1 (c.map encU)] := ⟨c, h, rfl, rfl, rfl, rfl⟩
def SoWFS : Spec := { al := true, rel := fun args ins res outs => ∃ c : List Nat, c.length ≤ 1000000 ∧ args = [.d (.sl (c.map encU))] ∧ ins = [] ∧ res = .d (.sl (c.map encU)) ∧ outs = [] }
theorem SoWF_at (c : List Nat) (h : c.length ≤ 1000000) : SoWFS.rel [.d (.sl (c.map encU))] [] (.d (.sl (c.map encU))) [] := ⟨c, h, rfl, rfl, rfl, rfl⟩
def SoCS : Spec := { rel := fun args ins res outs => ∃ c : List Cl, c.length ≤ 1000000 ∧ args = [.d (.sl (c.map encCl))] ∧ ins = [] ∧ res = .row 0 4 0 c.length ∧ outs = [.rows 91 4 (c.map encCl)] }
theorem SoC_at (c : List Cl) (h : c.length ≤ 1000000) : SoCS.rel [.d (.sl (c.map encCl))] [] (.row 0 4 0 c.length) [.rows 91 4 (c.map encCl)] := ⟨c, h, rfl, rfl, rfl, rfl⟩
def SoCFS : Spec := { al := true, rel := fun args ins res outs => ∃ c : List Cl, c.length ≤ 1000000 ∧ args = [.d (.sl (c.map encCl))] ∧ ins = [] ∧ res = .d (.sl (c.map encCl)) ∧ outs = [] }
theorem SoCF_at (c : List Cl) (h : c.length ≤ 1000000) : SoCFS.rel [.d (.sl (c.map encCl))] [] (.d (.sl (c.map encCl))) [] := ⟨c, h, rfl, rfl, rfl, rfl⟩
/-- a story whose waits are the own rows i -/
abbrev syR (i : Nat) (s : Sy) : AV := .agg [.d (.sl (s.m.1.map encDB)), .d (.sl (s.m.2.1.map encU)), .d (.sl (s.m.2.2.map encCl)), .row i 1 0 s.W.length, wv (s.L : Int)]
def CpyS : Spec := { al := true, rel := fun args ins res outs => ∃ s : Sy, s.m.1.length ≤ 1000000 ∧ s.m.2.1.length ≤ 1000000 ∧ s.m.2.2.length ≤ 1000000 ∧ s.W.length ≤ 1000000 ∧ args = [syA s] ∧ ins = [] ∧ res = syR 0 s ∧ outs = [.rows 22 1 (s.W.map encU)] }
theorem Cpy_at (s : Sy) (h2 : s.m.1.length ≤ 1000000) (h3 : s.m.2.1.length ≤ 1000000) (h4 : s.m.2.2.length ≤ 1000000) (h5 : s.W.length ≤ 1000000) : CpyS.rel [syA s] [] (syR 0 s) [.rows 22 1 (s.W.map encU)] := ⟨s, h2, h3, h4, h5, rfl, rfl, rfl, rfl⟩
def MNewS : Spec := { al := true, rel := fun args ins res outs => args = [] ∧ ins = [] ∧ res = syR 0 sy0 ∧ outs = [.rows 22 1 (mp0.map encU)] }
theorem MNew_at : MNewS.rel [] [] (syR 0 sy0) [.rows 22 1 (mp0.map encU)] := ⟨rfl, rfl, rfl, rfl⟩
theorem MNew_ok : Ok Try.prog 13 MNewS := by
  refine fn_ok MNewS Try.func13 rfl rfl ?_
  rintro args ins res outs ⟨rfl, rfl, rfl, rfl⟩
  refine ⟨by simp [Try.ntmps13], fun w0 V Bo mu0 => ?_⟩
  repeat' (first
    | (with_reducible first | refine W_seq ?_ | refine endQ_ret ?_ | refine endQ_normal ?_)
    | ((with_reducible first | refine hK _ ?_ | refine hK _ _ ?_); clear hK K)
    | ((first | (with_reducible first | refine ops_cons (fun K hK => ?_) | refine opsd_cons (fun K hK => ?_) | refine ops_nil ?_) | ((with_reducible refine opsd_nil ?_); refine And.intro (by kernel_rfl) ?_) | with_reducible refine callV_snap ?_ | ((with_reducible refine call_go NewFS NewF_ok ?_); refine ⟨(by first | exact alOk_nil _ | exact alOk_f rfl), _, _, NewF_at , ?_⟩) | (with_reducible first | refine W_reg [(0, [0]), (1, [0])] ?_ | refine W_drw [(0, [0]), (1, [0])] (by kernel_rfl) ?_ | refine end_at0 ?_) | (with_reducible refine And.intro (fun h => ?_) (fun h => ?_)) | (with_reducible refine And.intro (by omega) ?_)); (try simp only [go_sem, seval, reduceCtorEq, Try.ntmps13, Try.results13, MNewS]))
    | fail)
  refine W_ret (endQ_ret (end_at [1] ?_))
  simp [go_sem, Try.results13, MNewS, encU, sy0]
  trace_state
def MNewFS : Spec := { al := true, rel := fun args ins res outs => args = [] ∧ ins = [] ∧ res = syA sy0 ∧ outs = [] }
theorem MNewF_at : MNewFS.rel [] [] (syA sy0) [] := ⟨rfl, rfl, rfl, rfl⟩
theorem MNewF_ok : Ok Try.prog 13 MNewFS := by
  refine ok_frz MNew_ok MNewFS rfl ?_
  rintro args ins res outs ⟨rfl, rfl, rfl, rfl⟩
  exact ⟨rfl, rfl, _, _, ⟨rfl, rfl, rfl, rfl⟩, rfl⟩
def rfn (n : Nat) : Nat := if n = 1 then 18 else if n = 2 then 19 else if n = 3 then 20 else if n = 4 then 21 else if n = 5 then 22 else if n = 6 then 23 else if n = 7 then 24 else if n = 8 then 25 else if n = 9 then 26 else if n = 10 then 27 else 28
def fvl (n : Nat) : Value := .func (.func (rfn n)) #[] #[]
def ruE : List Ie := [⟨1, fvl 1, 0⟩, ⟨2, fvl 2, 1⟩, ⟨3, fvl 3, 2⟩, ⟨4, fvl 4, 3⟩, ⟨5, fvl 5, 4⟩, ⟨6, fvl 6, 5⟩, ⟨7, fvl 7, 6⟩, ⟨8, fvl 8, 7⟩, ⟨9, fvl 9, 8⟩, ⟨10, fvl 10, 9⟩, ⟨11, fvl 11, 10⟩]
def ruleS : Spec := { rel := fun args ins res outs => args = [] ∧ ins = [] ∧ res = .mp 0 ∧ outs = [imO ruE 11] }
theorem rule_at : ruleS.rel [] [] (.mp 0) [imO ruE 11] := ⟨rfl, rfl, rfl, rfl⟩
theorem ip0 (v1 : Value) : iput [] 0 1 v1 = ([⟨1, v1, 0⟩], 1) := rfl
theorem ip1 (v1 v2 : Value) : iput [⟨1, v1, 0⟩] 1 2 v2 = ([⟨1, v1, 0⟩, ⟨2, v2, 1⟩], 2) := rfl
theorem ip2 (v1 v2 v3 : Value) : iput [⟨1, v1, 0⟩, ⟨2, v2, 1⟩] 2 3 v3 = ([⟨1, v1, 0⟩, ⟨2, v2, 1⟩, ⟨3, v3, 2⟩], 3) := rfl
theorem ip3 (v1 v2 v3 v4 : Value) : iput [⟨1, v1, 0⟩, ⟨2, v2, 1⟩, ⟨3, v3, 2⟩] 3 4 v4 = ([⟨1, v1, 0⟩, ⟨2, v2, 1⟩, ⟨3, v3, 2⟩, ⟨4, v4, 3⟩], 4) := rfl
theorem ip4 (v1 v2 v3 v4 v5 : Value) : iput [⟨1, v1, 0⟩, ⟨2, v2, 1⟩, ⟨3, v3, 2⟩, ⟨4, v4, 3⟩] 4 5 v5 = ([⟨1, v1, 0⟩, ⟨2, v2, 1⟩, ⟨3, v3, 2⟩, ⟨4, v4, 3⟩, ⟨5, v5, 4⟩], 5) := rfl
theorem ip5 (v1 v2 v3 v4 v5 v6 : Value) : iput [⟨1, v1, 0⟩, ⟨2, v2, 1⟩, ⟨3, v3, 2⟩, ⟨4, v4, 3⟩, ⟨5, v5, 4⟩] 5 6 v6 = ([⟨1, v1, 0⟩, ⟨2, v2, 1⟩, ⟨3, v3, 2⟩, ⟨4, v4, 3⟩, ⟨5, v5, 4⟩, ⟨6, v6, 5⟩], 6) := rfl
theorem ip6 (v1 v2 v3 v4 v5 v6 v7 : Value) : iput [⟨1, v1, 0⟩, ⟨2, v2, 1⟩, ⟨3, v3, 2⟩, ⟨4, v4, 3⟩, ⟨5, v5, 4⟩, ⟨6, v6, 5⟩] 6 7 v7 = ([⟨1, v1, 0⟩, ⟨2, v2, 1⟩, ⟨3, v3, 2⟩, ⟨4, v4, 3⟩, ⟨5, v5, 4⟩, ⟨6, v6, 5⟩, ⟨7, v7, 6⟩], 7) := rfl
theorem ip7 (v1 v2 v3 v4 v5 v6 v7 v8 : Value) : iput [⟨1, v1, 0⟩, ⟨2, v2, 1⟩, ⟨3, v3, 2⟩, ⟨4, v4, 3⟩, ⟨5, v5, 4⟩, ⟨6, v6, 5⟩, ⟨7, v7, 6⟩] 7 8 v8 = ([⟨1, v1, 0⟩, ⟨2, v2, 1⟩, ⟨3, v3, 2⟩, ⟨4, v4, 3⟩, ⟨5, v5, 4⟩, ⟨6, v6, 5⟩, ⟨7, v7, 6⟩, ⟨8, v8, 7⟩], 8) := rfl
theorem ip8 (v1 v2 v3 v4 v5 v6 v7 v8 v9 : Value) : iput [⟨1, v1, 0⟩, ⟨2, v2, 1⟩, ⟨3, v3, 2⟩, ⟨4, v4, 3⟩, ⟨5, v5, 4⟩, ⟨6, v6, 5⟩, ⟨7, v7, 6⟩, ⟨8, v8, 7⟩] 8 9 v9 = ([⟨1, v1, 0⟩, ⟨2, v2, 1⟩, ⟨3, v3, 2⟩, ⟨4, v4, 3⟩, ⟨5, v5, 4⟩, ⟨6, v6, 5⟩, ⟨7, v7, 6⟩, ⟨8, v8, 7⟩, ⟨9, v9, 8⟩], 9) := rfl
theorem ip9 (v1 v2 v3 v4 v5 v6 v7 v8 v9 v10 : Value) : iput [⟨1, v1, 0⟩, ⟨2, v2, 1⟩, ⟨3, v3, 2⟩, ⟨4, v4, 3⟩, ⟨5, v5, 4⟩, ⟨6, v6, 5⟩, ⟨7, v7, 6⟩, ⟨8, v8, 7⟩, ⟨9, v9, 8⟩] 9 10 v10 = ([⟨1, v1, 0⟩, ⟨2, v2, 1⟩, ⟨3, v3, 2⟩, ⟨4, v4, 3⟩, ⟨5, v5, 4⟩, ⟨6, v6, 5⟩, ⟨7, v7, 6⟩, ⟨8, v8, 7⟩, ⟨9, v9, 8⟩, ⟨10, v10, 9⟩], 10) := rfl
theorem ip10 (v1 v2 v3 v4 v5 v6 v7 v8 v9 v10 v11 : Value) : iput [⟨1, v1, 0⟩, ⟨2, v2, 1⟩, ⟨3, v3, 2⟩, ⟨4, v4, 3⟩, ⟨5, v5, 4⟩, ⟨6, v6, 5⟩, ⟨7, v7, 6⟩, ⟨8, v8, 7⟩, ⟨9, v9, 8⟩, ⟨10, v10, 9⟩] 10 11 v11 = ([⟨1, v1, 0⟩, ⟨2, v2, 1⟩, ⟨3, v3, 2⟩, ⟨4, v4, 3⟩, ⟨5, v5, 4⟩, ⟨6, v6, 5⟩, ⟨7, v7, 6⟩, ⟨8, v8, 7⟩, ⟨9, v9, 8⟩, ⟨10, v10, 9⟩, ⟨11, v11, 10⟩], 11) := rfl
theorem rule_ok : Ok Try.prog 14 ruleS := by
  refine fn_ok ruleS Try.func14 rfl rfl ?_
  rintro args ins res outs ⟨rfl, rfl, rfl, rfl⟩
  refine ⟨by simp [Try.ntmps14], fun w0 V Bo mu0 => ?_⟩
  repeat' (first
    | (with_reducible first | refine W_seq ?_ | refine endQ_ret ?_ | refine endQ_normal ?_)
    | ((with_reducible first | refine hK _ ?_ | refine hK _ _ ?_); clear hK K)
    | ((refine ext_imake rfl ?_ rfl ?_) <;> simp only [go_sem, seval, reduceCtorEq])
    | ((refine ext_iput (.inr rfl) rfl rfl rfl rfl rfl (only_fn _) rfl ?_); simp only [go_sem, seval, reduceCtorEq, ip0, ip1, ip2, ip3, ip4, ip5, ip6, ip7, ip8, ip9, ip10])
    | ((first | (with_reducible first | refine ops_cons (fun K hK => ?_) | refine ops_nil ?_) | (with_reducible first | refine W_reg [(0, []), (1, [0])] ?_ | refine end_at0 ?_) | (with_reducible refine And.intro (fun h => ?_) (fun h => ?_)) | (with_reducible refine And.intro (by omega) ?_)); (try simp only [go_sem, seval, reduceCtorEq, Try.ntmps14, Try.results14, ruleS]))
    | fail)
  refine W_ret (endQ_ret (end_at [0] ?_))
  simp [go_sem, Try.results14, ruleS]
  all_goals rfl
def ruxS {n : Nat} : Spec := { al := true, rel := fun args ins res outs => RuR n args ins res outs }
theorem rux_all {n : Nat} (h1 : 1 ≤ n) (h2 : n ≤ 11) : Ok Try.prog (rfn n) (ruxS (n := n)) := by
  rcases (show n = 1 ∨ n = 2 ∨ n = 3 ∨ n = 4 ∨ n = 5 ∨ n = 6 ∨ n = 7 ∨ n = 8 ∨ n = 9 ∨ n = 10 ∨ n = 11 by omega) with rfl | rfl | rfl | rfl | rfl | rfl | rfl | rfl | rfl | rfl | rfl
  · exact ru1_ok
  · exact ru2_ok
  · exact ru3_ok
  · exact ru4_ok
  · exact ru5_ok
  · exact ru6_ok
  · exact ru7_ok
  · exact ru8_ok
  · exact ru9_ok
  · exact ru10_ok
  · exact ru11_ok
theorem iget_ru {n : Nat} (h1 : 1 ≤ n) (h2 : n ≤ 11) : iget ruE (n : Int) = some (fvl n) := by
  rcases (show n = 1 ∨ n = 2 ∨ n = 3 ∨ n = 4 ∨ n = 5 ∨ n = 6 ∨ n = 7 ∨ n = 8 ∨ n = 9 ∨ n = 10 ∨ n = 11 by omega) with rfl | rfl | rfl | rfl | rfl | rfl | rfl | rfl | rfl | rfl | rfl
  all_goals rfl
end Go.Proofs.Ytnclclpfmldocaa
