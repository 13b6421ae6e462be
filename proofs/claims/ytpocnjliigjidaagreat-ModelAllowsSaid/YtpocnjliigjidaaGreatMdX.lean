import Derived.Test.YtpocnjliigjidaaGreatMdF
import Derived.Test.YtpocnjliigjidaaGreatMdC
/- A story's validity; copies of slices, of stories; the beginning; the table of rules. -/
namespace Go.Proofs.YtpocnjliigjidaaGreat
open Go.RowKit
set_option maxRecDepth 100000
set_option linter.unusedSimpArgs false
set_option linter.unusedVariables false
abbrev syA (s : Sy) : AV := .agg [.d (.sl (s.m.1.map encDB)), .d (.sl (s.m.2.1.map encU)), .d (.sl (s.m.2.2.map encCl)), .d (.sl (s.W.map encU)), wv (s.L : Int)]
end Go.Proofs.YtpocnjliigjidaaGreat
namespace Go.Proofs.YtpocnjliigjidaaGreat
open Go.RowKit
set_option maxRecDepth 100000
set_option linter.unusedSimpArgs false
set_option linter.unusedVariables false
abbrev syR (i : Nat) (s : Sy) : AV := .agg [.d (.sl (s.m.1.map encDB)), .d (.sl (s.m.2.1.map encU)), .d (.sl (s.m.2.2.map encCl)), .row i 1 0 s.W.length, wv (s.L : Int)]
def MNewS : Spec := { al := true, rel := fun args ins res outs => args = [] ∧ ins = [] ∧ res = syR 0 sy0 ∧ outs = [.rows 24 1 (mp0.map encU)] }
theorem MNew_at : MNewS.rel [] [] (syR 0 sy0) [.rows 24 1 (mp0.map encU)] := ⟨rfl, rfl, rfl, rfl⟩
theorem MNew_ok : Ok Tryz.prog 24 MNewS := by
  refine fn_ok MNewS Tryz.func24 rfl rfl ?_
  rintro args ins res outs ⟨rfl, rfl, rfl, rfl⟩
  refine ⟨by simp [Tryz.ntmps24], fun w0 V Bo mu0 => ?_⟩
  repeat' (first | refine sA ?_ | ((with_reducible first | refine hK _ ?_ | refine hK _ _ ?_); clear hK K) | ((first | refine sC ?_ | (with_reducible first | refine ops_cons (fun K hK => ?_) | refine opsd_cons (fun K hK => ?_) | refine W_reg [(0, [0]), (1, [0])] ?_ | refine W_drw [(0, [0]), (1, [0])] (by kernel_rfl) ?_) | ((with_reducible refine opsd_nil ?_); refine And.intro (by kernel_rfl) ?_) | with_reducible refine callV_snap ?_ | ((with_reducible refine call_go NewFS NewF_ok ?_); refine ⟨alk, _, _, NewF_at , ?_⟩) | with_reducible refine And.intro (fun h => ?_) (fun h => ?_) | with_reducible refine And.intro (by omega) ?_); (try simp only [go_sem, seval, reduceCtorEq, Tryz.ntmps24, Tryz.results24, MNewS])) | fail)
  refine W_ret (endQ_ret (end_at [1] ?_))
  simp [go_sem, Tryz.results24, MNewS, encU, sy0]
  trace_state
def MNewFS : Spec := { al := true, rel := fun args ins res outs => args = [] ∧ ins = [] ∧ res = syA sy0 ∧ outs = [] }
def rfn (n : Nat) : Nat := if n = 1 then 65 else if n = 2 then 66 else if n = 3 then 67 else if n = 4 then 68 else if n = 5 then 69 else if n = 6 then 70 else if n = 7 then 71 else if n = 8 then 72 else if n = 9 then 73 else if n = 10 then 74 else 75
def fvl (n : Nat) : Value := .func (.func (rfn n)) #[] #[]
def ruE : List Ie := [⟨1, fvl 1, 0⟩, ⟨2, fvl 2, 1⟩, ⟨3, fvl 3, 2⟩, ⟨4, fvl 4, 3⟩, ⟨5, fvl 5, 4⟩, ⟨6, fvl 6, 5⟩, ⟨7, fvl 7, 6⟩, ⟨8, fvl 8, 7⟩, ⟨9, fvl 9, 8⟩, ⟨10, fvl 10, 9⟩, ⟨11, fvl 11, 10⟩]
def ruleS : Spec := { rel := fun args ins res outs => args = [] ∧ ins = [] ∧ res = .mp 0 ∧ outs = [imO ruE 11] }
theorem rule_at : ruleS.rel [] [] (.mp 0) [imO ruE 11] := ⟨rfl, rfl, rfl, rfl⟩
theorem ip0 (v1 : Value) : iput [] 0 1 v1 = ([⟨1, v1, 0⟩], 1) := rfl
theorem ip1 (v1 v2 : Value) : iput [⟨1, v1, 0⟩] 1 2 v2 = ([⟨1, v1, 0⟩, ⟨2, v2, 1⟩], 2) := rfl
theorem ip2 (v1 v2 v3 : Value) : iput [⟨1, v1, 0⟩, ⟨2, v2, 1⟩] 2 3 v3 = ([⟨1, v1, 0⟩, ⟨2, v2, 1⟩, ⟨3, v3, 2⟩], 3) := rfl
theorem ip3 (v1 v2 v3 v4 : Value) : iput [⟨1, v1, 0⟩, ⟨2, v2, 1⟩, ⟨3, v3, 2⟩] 3 4 v4 = ([⟨1, v1, 0⟩, ⟨2, v2, 1⟩, ⟨3, v3, 2⟩, ⟨4, v4, 3⟩], 4) := rfl
theorem ip4 (v1 v2 v3 v4 v5 : Value) : iput [⟨1, v1, 0⟩, ⟨2, v2, 1⟩, ⟨3, v3, 2⟩, ⟨4, v4, 3⟩] 4 5 v5 = ([⟨1, v1, 0⟩, ⟨2, v2, 1⟩, ⟨3, v3, 2⟩, ⟨4, v4, 3⟩, ⟨5, v5, 4⟩], 5) := rfl
theorem ip5 (v1 v2 v3 v4 v5 v6 : Value) : iput [⟨1, v1, 0⟩, ⟨2, v2, 1⟩, ⟨3, v3, 2⟩, ⟨4, v4, 3⟩, ⟨5, v5, 4⟩] 5 6 v6 = ([⟨1, v1, 0⟩, ⟨2, v2, 1⟩, ⟨3, v3, 2⟩, ⟨4, v4, 3⟩, ⟨5, v5, 4⟩, ⟨6, v6, 5⟩], 6) := rfl
theorem ip6 (v1 v2 v3 v4 v5 v6 v7 : Value) : iput [⟨1, v1, 0⟩, ⟨2, v2, 1⟩, ⟨3, v3, 2⟩, ⟨4, v4, 3⟩, ⟨5, v5, 4⟩, ⟨6, v6, 5⟩] 6 7 v7 = ([⟨1, v1, 0⟩, ⟨2, v2, 1⟩, ⟨3, v3, 2⟩, ⟨4, v4, 3⟩, ⟨5, v5, 4⟩, ⟨6, v6, 5⟩, ⟨7, v7, 6⟩], 7) := rfl
theorem ip7 (v1 v2 v3 v4 v5 v6 v7 v8 : Value) : iput [⟨1, v1, 0⟩, ⟨2, v2, 1⟩, ⟨3, v3, 2⟩, ⟨4, v4, 3⟩, ⟨5, v5, 4⟩, ⟨6, v6, 5⟩, ⟨7, v7, 6⟩] 7 8 v8 = ([⟨1, v1, 0⟩, ⟨2, v2, 1⟩, ⟨3, v3, 2⟩, ⟨4, v4, 3⟩, ⟨5, v5, 4⟩, ⟨6, v6, 5⟩, ⟨7, v7, 6⟩, ⟨8, v8, 7⟩], 8) := rfl
theorem ip8 (v1 v2 v3 v4 v5 v6 v7 v8 v9 : Value) : iput [⟨1, v1, 0⟩, ⟨2, v2, 1⟩, ⟨3, v3, 2⟩, ⟨4, v4, 3⟩, ⟨5, v5, 4⟩, ⟨6, v6, 5⟩, ⟨7, v7, 6⟩, ⟨8, v8, 7⟩] 8 9 v9 = ([⟨1, v1, 0⟩, ⟨2, v2, 1⟩, ⟨3, v3, 2⟩, ⟨4, v4, 3⟩, ⟨5, v5, 4⟩, ⟨6, v6, 5⟩, ⟨7, v7, 6⟩, ⟨8, v8, 7⟩, ⟨9, v9, 8⟩], 9) := rfl
theorem ip9 (v1 v2 v3 v4 v5 v6 v7 v8 v9 v10 : Value) : iput [⟨1, v1, 0⟩, ⟨2, v2, 1⟩, ⟨3, v3, 2⟩, ⟨4, v4, 3⟩, ⟨5, v5, 4⟩, ⟨6, v6, 5⟩, ⟨7, v7, 6⟩, ⟨8, v8, 7⟩, ⟨9, v9, 8⟩] 9 10 v10 = ([⟨1, v1, 0⟩, ⟨2, v2, 1⟩, ⟨3, v3, 2⟩, ⟨4, v4, 3⟩, ⟨5, v5, 4⟩, ⟨6, v6, 5⟩, ⟨7, v7, 6⟩, ⟨8, v8, 7⟩, ⟨9, v9, 8⟩, ⟨10, v10, 9⟩], 10) := rfl
theorem ip10 (v1 v2 v3 v4 v5 v6 v7 v8 v9 v10 v11 : Value) : iput [⟨1, v1, 0⟩, ⟨2, v2, 1⟩, ⟨3, v3, 2⟩, ⟨4, v4, 3⟩, ⟨5, v5, 4⟩, ⟨6, v6, 5⟩, ⟨7, v7, 6⟩, ⟨8, v8, 7⟩, ⟨9, v9, 8⟩, ⟨10, v10, 9⟩] 10 11 v11 = ([⟨1, v1, 0⟩, ⟨2, v2, 1⟩, ⟨3, v3, 2⟩, ⟨4, v4, 3⟩, ⟨5, v5, 4⟩, ⟨6, v6, 5⟩, ⟨7, v7, 6⟩, ⟨8, v8, 7⟩, ⟨9, v9, 8⟩, ⟨10, v10, 9⟩, ⟨11, v11, 10⟩], 11) := rfl
theorem rule_ok : Ok Tryz.prog 44 ruleS := by
  refine fn_ok ruleS Tryz.func44 rfl rfl ?_
  rintro args ins res outs ⟨rfl, rfl, rfl, rfl⟩
  refine ⟨by simp [Tryz.ntmps44], fun w0 V Bo mu0 => ?_⟩
  repeat' (first | refine sA ?_ | ((with_reducible first | refine hK _ ?_ | refine hK _ _ ?_); clear hK K) | ((refine ext_imake rfl ?_ rfl ?_) <;> simp only [go_sem, seval, reduceCtorEq]) | ((refine ext_iput (.inr rfl) rfl rfl rfl rfl rfl (only_fn _) rfl ?_); simp only [go_sem, seval, reduceCtorEq, ip0, ip1, ip2, ip3, ip4, ip5, ip6, ip7, ip8, ip9, ip10]) | ((first | refine sC ?_ | (with_reducible first | refine ops_cons (fun K hK => ?_) | refine W_reg [(0, []), (1, [0])] ?_) | with_reducible refine And.intro (fun h => ?_) (fun h => ?_) | with_reducible refine And.intro (by omega) ?_); (try simp only [go_sem, seval, reduceCtorEq, Tryz.ntmps44, Tryz.results44, ruleS])) | fail)
  refine W_ret (endQ_ret (end_at [0] ?_))
  simp [go_sem, Tryz.results44, ruleS]
  all_goals rfl
def ruxS {n : Nat} : Spec := { al := true, rel := fun args ins res outs => RuR n args ins res outs }
theorem rux_all {n : Nat} (h1 : 1 ≤ n) (h2 : n ≤ 11) : Ok Tryz.prog (rfn n) (ruxS (n := n)) := by
  rcases (show n = 1 ∨ n = 2 ∨ n = 3 ∨ n = 4 ∨ n = 5 ∨ n = 6 ∨ n = 7 ∨ n = 8 ∨ n = 9 ∨ n = 10 ∨ n = 11 by omega) with rfl | rfl | rfl | rfl | rfl | rfl | rfl | rfl | rfl | rfl | rfl
  · exact ru1_ok
  · exact ru2_ok
  · exact ru3_ok
  · exact ru4_ok
  · exact ru5_ok
  · exact ru6_ok
  · exact ru7_ok
  · exact ru8_ok
  · exact ru9_ok
  · exact ru10_ok
  · exact ru11_ok
theorem iget_ru {n : Nat} (h1 : 1 ≤ n) (h2 : n ≤ 11) : iget ruE (n : Int) = some (fvl n) := by
  rcases (show n = 1 ∨ n = 2 ∨ n = 3 ∨ n = 4 ∨ n = 5 ∨ n = 6 ∨ n = 7 ∨ n = 8 ∨ n = 9 ∨ n = 10 ∨ n = 11 by omega) with rfl | rfl | rfl | rfl | rfl | rfl | rfl | rfl | rfl | rfl | rfl
  all_goals rfl
end Go.Proofs.YtpocnjliigjidaaGreat
namespace Go.Proofs.YtpocnjliigjidaaGreat
open Go.RowKit
set_option maxRecDepth 100000
set_option linter.unusedSimpArgs false
set_option linter.unusedVariables false
abbrev lv12MdI : List (Nat × List Nat) := [(0, [0, 2]), (1, [0, 2, 4, 5, 6]), (2, [2, 4, 6, 20]), (3, [2, 4, 6]), (4, [2, 4, 6, 22]), (5, [2, 3]), (6, [2, 3])]
abbrev lv32MdI : List (Nat × List Nat) := [(0, [0, 2]), (1, [0, 2, 5]), (2, [0, 2, 5, 17]), (3, [2, 3, 4]), (4, [0, 2, 7]), (5, [0, 2, 7, 8]), (6, [0, 2, 7, 8, 24, 25, 26]), (7, [0, 2, 7, 8, 24, 25, 26, 27]), (8, [0, 2, 7, 8, 9, 10, 24, 25, 26]), (9, [0, 2, 7, 8, 9, 24, 25, 26, 38]), (10, [2, 3, 4]), (11, [0, 2, 7, 8, 24, 25, 26]), (12, [2, 3, 4])]
def syZ : Sy := ⟨nilF, [], 0⟩
abbrev zrS : AV := .agg [.nil, .nil, .nil, .nil, wv 0]
theorem zr_rule : ∃ z : Value, ∀ w, (zeroValue 78).run Tryz.prog w = .ok z w := ⟨_, fun _ => rfl⟩
theorem rep_ru {n : Nat} (h1 : 1 ≤ n) (h2 : n ≤ 11) (z : Value) (w : World) (S : Nat → Prop) (μ : Mu) : Rep w S μ (.fn (rfn n) []) ((iget ruE (n : Int)).getD z) := by
  rw [iget_ru h1 h2]
  exact .fn rfl (fun j x v hx _ => by simp at hx)
def tlG (l : List Oc) (i : Nat) : Sy := (run sy0 (l.take i)).getD sy0
def tlS (l : List Oc) : Sy := if (trE l).1 = 0 then (wk sy0 l).2 else syZ
def tlN (l : List Oc) : Nat := if (trE l).1 = 0 then (wk sy0 l).1 else 0
def telR (l : List Oc) : AV × List Ob := if (trE l).1 = 0 then (.tup [syR 0 (tlS l), iv (tlN l : Int), iv 0], [.rows 24 1 ((tlS l).W.map encU)]) else (.tup [zrS, iv 0, iv (trE l).1], [])
def telS : Spec := { al := true, rel := fun args ins res outs => ∃ l : List Oc, l.length ≤ 1000000 ∧ args = [ocL l] ∧ ins = [] ∧ res = (telR l).1 ∧ outs = (telR l).2 }
theorem tlG_of {l : List Oc} {i : Nat} {s : Sy} (h : run sy0 (l.take i) = some s) : tlG l i = s := by unfold tlG; rw [h]; rfl
set_option maxHeartbeats 4000000 in
theorem tel_ok : Ok Tryz.prog 32 telS := by
  refine fn_ok telS Tryz.func32 rfl rfl ?_
  rintro args ins res outs ⟨l, hl, rfl, rfl, rfl, rfl⟩
  refine ⟨by simp [Tryz.ntmps32], fun w0 V Bo mu0 => ?_⟩
  have T0 := Trk_at l hl (e := (trE l).1) (i := (trE l).2) rfl
  by_cases he : (trE l).1 = 0
  case neg =>
    have hr : telR l = (.tup [zrS, iv 0, iv (trE l).1], []) := by unfold telR; exact if_neg he
    rw [hr]
    generalize (trE l).1 = E at *
    generalize (trE l).2 = I at *
    have Trk_at : TrkS.rel [ocL l] [] (.tup [iv E, iv (I : Int)]) [] := T0
    repeat' (first | refine sA ?_ | with_reducible refine W_tf rfl (fun h => ?_) (fun h => ?_) | ((with_reducible first | refine hK _ ?_ | refine hK _ _ ?_); clear hK K) | ((first | refine sB ?_ | (with_reducible first | refine ops_cons (fun K hK => ?_) | refine W_reg lv32MdI ?_) | with_reducible refine callV_snap ?_ | ((with_reducible refine call_go TrkS Trk_ok ?_); refine ⟨alk, _, _, Trk_at , ?_⟩) | with_reducible refine And.intro (fun h => ?_) (fun h => ?_) | with_reducible refine And.intro (by omega) ?_); (try simp only [go_sem, seval, reduceCtorEq, he, lv32MdI, Tryz.ntmps32, Tryz.results32, telS])) | fail)
  have hval := (trE_ok he).2
  have hr : telR l = (.tup [syR 0 (wk sy0 l).2, iv ((wk sy0 l).1 : Int), iv 0], [.rows 24 1 ((wk sy0 l).2.W.map encU)]) := by unfold telR tlS tlN; rw [if_pos he, if_pos he, if_pos he]
  rw [hr]
  rw [he] at T0
  generalize (trE l).2 = I at *
  have Trk_at : TrkS.rel [ocL l] [] (.tup [iv 0, iv (I : Int)]) [] := T0
  repeat' (first | refine sA ?_ | with_reducible refine W_tf rfl (fun h => ?_) (fun h => ?_) | ((with_reducible first | refine hK _ ?_ | refine hK _ _ ?_); clear hK K) | ((first | refine sB ?_ | (with_reducible first | refine ops_cons (fun K hK => ?_) | refine W_reg lv32MdI ?_) | with_reducible refine callV_snap ?_ | ((with_reducible refine call_go TrkS Trk_ok ?_); refine ⟨alk, _, _, Trk_at , ?_⟩) | ((with_reducible refine call_go MNewS MNew_ok ?_); refine ⟨alk, _, _, MNew_at , ?_⟩) | ((with_reducible refine call_go ruleS rule_ok ?_); refine ⟨alk, _, _, rule_at , ?_⟩) | with_reducible refine And.intro (fun h => ?_) (fun h => ?_) | with_reducible refine And.intro (by omega) ?_); (try simp only [go_sem, seval, reduceCtorEq, lv32MdI, Tryz.ntmps32, Tryz.results32, telS])) | fail)
  refine W_loop (fun i : Nat => ⟨[(0, ocL l), (2, .ptr 0 0), (7, .ptr 2 0), (8, .mp 3), (24, ocL l), (25, iv (l.length : Int)), (26, iv (i : Int))], [some (.box 40 [.nil, .nil, .nil, .nil, wv 0]), some (.rows 24 1 ((tlG l i).W.map encU)), some (.box 76 [.d (.sl ((tlG l i).m.1.map encDB)), .d (.sl ((tlG l i).m.2.1.map encU)), .d (.sl ((tlG l i).m.2.2.map encCl)), .row 1 1 0 (tlG l i).W.length, wv ((tlG l i).L : Int)]), some (imO ruE 11)]⟩) (fun i => i ≤ l.length ∧ run sy0 (l.take i) = some (tlG l i)) (fun i => l.length - i) 0 ⟨Nat.zero_le _, rfl⟩ [0, 1, 2, 3] ?_ ?_
  · simp [go_sem, tlG, run, sy0]
  rintro i ⟨hi, hT⟩
  by_cases hlt : i < l.length
  · have hki : (i : Int) < l.length := by omega
    have hx := hval _ (List.getElem_mem hlt)
    have hnext := fun u => run_step (u := u) hlt hT
    have hstop := wk_stop hlt hT
    have hv : Vs (tlG l i) := run_vs sy0_vs (fun y hy => hval y (List.mem_of_mem_take hy)) hT
    have hgo := fun u h => tlG_of (i := i + 1) (hnext u h)
    obtain ⟨x, hxe⟩ : ∃ x, l[i] = x := ⟨_, rfl⟩
    have e0 : encOc l[i] = [.int .i64 x.k, .int .i64 x.p, .int .i64 x.o, .int .i64 x.g, .int .i64 x.w, .int .u64 (x.t : Int), .int .u64 (x.v : Int)] := by rw [hxe]; rfl
    rw [hxe] at hx hnext hstop hgo
    obtain ⟨k1, k2, _⟩ := oc_kind hx
    obtain ⟨n, hn⟩ : ∃ n : Nat, x.k = (n : Int) := ⟨x.k.toNat, by omega⟩
    have rux_ok := rux_all (n := n) (by omega) (by omega)
    obtain ⟨z, hz⟩ := zr_rule
    have hy := rep_ru (n := n) (by omega) (by omega) z
    rw [← hn] at hy
    have R0 : ruxS.rel [.ptr 0 0, ocA x] (tlO (tlG l i)) (bv (nx (tlG l i) x).isSome) (tlO ((nx (tlG l i) x).getD (tlG l i))) := (⟨tlG l i, x, hv, hx, hn, rfl, rfl, rfl, rfl⟩ : RuR n _ _ _ _)
    cases hnx : nx (tlG l i) x with
    | none =>
      rw [hstop hnx]
      rw [hnx] at R0
      generalize tlG l i = s at *
      have rux_at : (ruxS (n := n)).rel [.ptr 0 0, ocA x] (tlO s) (bv false) (tlO s) := R0
      repeat' (first | refine sA ?_ | with_reducible refine W_tf rfl (fun h => ?_) (fun h => ?_) | ((with_reducible first | refine hK _ ?_ | refine hK _ _ ?_); clear hK K) | ((refine ext_ilook (.fn (rfn n) []) rfl ?_ rfl hz rfl rfl rfl hy ?_) <;> simp only [go_sem, seval, reduceCtorEq]) | ((first | refine sC ?_ | (with_reducible first | refine ops_cons (fun K hK => ?_) | refine W_reg lv32MdI ?_) | ((with_reducible refine callV_lend ruxS [2,1] rux_ok rfl ?_); simp only [go_sem, seval, reduceCtorEq, hki, e0, decide_true, Bool.and_self, lv32MdI]; refine ⟨alk, rfl, _, _, rux_at , ?_⟩) | with_reducible refine callV_snap ?_ | with_reducible refine And.intro (fun h => ?_) (fun h => ?_) | with_reducible refine And.intro (by omega) ?_); (try simp only [go_sem, seval, reduceCtorEq, hki, e0, decide_true, Bool.and_self, lv32MdI, ruxS, Tryz.ntmps32, Tryz.results32, telS])) | fail)
      refine W_ret (endQ_ret (end_at [1] ?_))
      simp [go_sem, Tryz.results32, telS]
    | some t =>
      have hg := hgo t hnx
      have hnx' := hnext t hnx
      rw [hnx] at R0
      generalize tlG l i = s at *
      have rux_at : (ruxS (n := n)).rel [.ptr 0 0, ocA x] (tlO s) (bv true) (tlO t) := R0
      repeat' (first | refine sA ?_ | with_reducible refine W_tf rfl (fun h => ?_) (fun h => ?_) | ((with_reducible first | refine hK _ ?_ | refine hK _ _ ?_); clear hK K) | ((refine ext_ilook (.fn (rfn n) []) rfl ?_ rfl hz rfl rfl rfl hy ?_) <;> simp only [go_sem, seval, reduceCtorEq]) | ((first | refine sC ?_ | (with_reducible first | refine ops_cons (fun K hK => ?_) | refine W_reg lv32MdI ?_) | ((with_reducible refine callV_lend ruxS [2,1] rux_ok rfl ?_); simp only [go_sem, seval, reduceCtorEq, hki, e0, decide_true, Bool.and_self, lv32MdI]; refine ⟨alk, rfl, _, _, rux_at , ?_⟩) | with_reducible refine callV_snap ?_ | with_reducible refine And.intro (fun h => ?_) (fun h => ?_) | with_reducible refine And.intro (by omega) ?_); (try simp only [go_sem, seval, reduceCtorEq, hki, e0, decide_true, Bool.and_self, lv32MdI, ruxS, Tryz.ntmps32, Tryz.results32, telS])) | fail)
      refine ⟨i + 1, [0, 1, 2, 3], ⟨by omega, by rw [hg]; exact hnx'⟩, by omega, ?_⟩
      simp [go_sem, hg]
  · have hki : ¬ (i : Int) < l.length := by omega
    obtain rfl : i = l.length := by omega
    rw [List.take_length] at hT
    rw [wk_run hT]
    generalize tlG l l.length = s at *
    repeat' (first | refine sA ?_ | with_reducible refine W_tf rfl (fun h => ?_) (fun h => ?_) | ((with_reducible first | refine hK _ ?_ | refine hK _ _ ?_); clear hK K) | ((first | refine sC ?_ | (with_reducible first | refine ops_cons (fun K hK => ?_) | refine W_reg lv32MdI ?_) | with_reducible refine callV_snap ?_ | with_reducible refine And.intro (fun h => ?_) (fun h => ?_) | with_reducible refine And.intro (by omega) ?_); (try simp only [go_sem, seval, reduceCtorEq, hki, lv32MdI, Tryz.ntmps32, Tryz.results32, telS])) | fail)
    refine W_ret (endQ_ret (end_at [1] ?_))
    simp [go_sem, Tryz.results32, telS]
theorem frz_sy3 (s : Sy) (n e : Int) : frz [.rows 24 1 (s.W.map encU)] (.tup [syR 0 s, iv n, iv e]) = some (.tup [syA s, iv n, iv e]) := by
  simp [frz, frzA, frzAL, frzL, frz1, List.take_of_length_le]
theorem frz_zr3 (n e : Int) : frz [] (.tup [zrS, iv n, iv e]) = some (.tup [syA syZ, iv n, iv e]) := rfl
def telFS : Spec := { al := true, rel := fun args ins res outs => ∃ l : List Oc, l.length ≤ 1000000 ∧ args = [ocL l] ∧ ins = [] ∧ res = .tup [syA (tlS l), iv (tlN l : Int), iv (trE l).1] ∧ outs = [] }
theorem telF_at (l : List Oc) (h : l.length ≤ 1000000) : telFS.rel [ocL l] [] (.tup [syA (tlS l), iv (tlN l : Int), iv (trE l).1]) [] := ⟨l, h, rfl, rfl, rfl, rfl⟩
theorem telF_ok : Ok Tryz.prog 32 telFS := by
  refine ok_frz tel_ok telFS rfl ?_
  rintro args ins res outs ⟨l, h, rfl, rfl, rfl, rfl⟩
  refine ⟨rfl, rfl, (telR l).1, (telR l).2, ⟨l, h, rfl, rfl, rfl, rfl⟩, ?_⟩
  unfold telR
  by_cases h : (trE l).1 = 0
  · rw [if_pos h, h]; exact frz_sy3 _ _ 0
  · rw [if_neg h]
    have e1 : tlS l = syZ := if_neg h
    have e2 : tlN l = 0 := if_neg h
    rw [e1, e2]; exact frz_zr3 _ _
def alwS : Spec := { rel := fun args ins res outs => ∃ l : List Oc, l.length ≤ 1000000 ∧ args = [ocL l] ∧ ins = [] ∧ res = .tup [iv (tlN l : Int), iv (trE l).1] ∧ outs = [] }
theorem alw_at (l : List Oc) (h : l.length ≤ 1000000) {n : Nat} {e : Int} (h1 : tlN l = n) (h2 : (trE l).1 = e) : alwS.rel [ocL l] [] (.tup [iv (n : Int), iv e]) [] := ⟨l, h, rfl, rfl, by rw [h1, h2], rfl⟩
theorem alw_ok : Ok Tryz.prog 10 alwS := by
  refine fn_ok alwS Tryz.func10 rfl rfl ?_
  rintro args ins res outs ⟨l, hl, rfl, rfl, rfl, rfl⟩
  refine ⟨by simp [Tryz.ntmps10], fun w0 V Bo mu0 => ?_⟩
  have T0 := telF_at l hl
  generalize tlS l = S at *
  generalize tlN l = N at *
  generalize (trE l).1 = E at *
  have telF_at : telFS.rel [ocL l] [] (.tup [syA S, iv (N : Int), iv E]) [] := T0
  repeat' (first | refine sA ?_ | ((with_reducible first | refine hK _ ?_ | refine hK _ _ ?_); clear hK K) | ((first | refine sB ?_ | (with_reducible first | refine ops_cons (fun K hK => ?_) | refine W_reg [(0, [0]), (1, [5, 6]), (2, [2, 3])] ?_) | with_reducible refine callV_snap ?_ | ((with_reducible refine call_go telFS telF_ok ?_); refine ⟨alk, _, _, telF_at , ?_⟩) | with_reducible refine And.intro (fun h => ?_) (fun h => ?_) | with_reducible refine And.intro (by omega) ?_); (try simp only [go_sem, seval, reduceCtorEq, Tryz.ntmps10, Tryz.results10, alwS])) | fail)
def afE (l : List Oc) : Int := if (trE l).1 = 0 ∧ tlN l < l.length then 9 else (trE l).1
def afT (l : List Oc) : Sy := if afE l = 0 then tlS l else syZ
def aftS : Spec := { al := true, rel := fun args ins res outs => ∃ l : List Oc, l.length ≤ 1000000 ∧ args = [ocL l] ∧ ins = [] ∧ res = .tup [if afE l = 0 then syA (afT l) else zrS, iv (afE l)] ∧ outs = [] }
theorem aft_ok' : Ok Tryz.prog 12 aftS := by
  refine fn_ok aftS Tryz.func12 rfl rfl ?_
  rintro args ins res outs ⟨l, hl, rfl, rfl, rfl, rfl⟩
  refine ⟨by simp [Tryz.ntmps12], fun w0 V Bo mu0 => ?_⟩
  have T0 := telF_at l hl
  unfold afT
  have hE : afE l = if (trE l).1 = 0 ∧ tlN l < l.length then 9 else (trE l).1 := rfl
  generalize afE l = F at *
  generalize tlS l = S at *
  generalize tlN l = N at *
  generalize (trE l).1 = E at *
  have telF_at : telFS.rel [ocL l] [] (.tup [syA S, iv (N : Int), iv E]) [] := T0
  by_cases h0 : E = 0
  · subst h0
    by_cases hN : N < l.length
    · have hN' : (N : Int) < (l.length : Int) := by omega
      rw [if_pos ⟨rfl, hN⟩] at hE
      subst hE
      rw [if_neg (show ¬ (9 : Int) = 0 by decide)]
      repeat' (first | refine sA ?_ | with_reducible refine W_tf rfl (fun h => ?_) (fun h => ?_) | ((with_reducible first | refine hK _ ?_ | refine hK _ _ ?_); clear hK K) | ((first | refine sB ?_ | (with_reducible first | refine ops_cons (fun K hK => ?_) | refine W_reg lv12MdI ?_) | with_reducible refine callV_snap ?_ | ((with_reducible refine call_go telFS telF_ok ?_); refine ⟨alk, _, _, telF_at , ?_⟩) | with_reducible refine And.intro (fun h => ?_) (fun h => ?_) | with_reducible refine And.intro (by omega) ?_); (try simp only [go_sem, seval, reduceCtorEq, hN', lv12MdI, Tryz.ntmps12, Tryz.results12, aftS])) | fail)
    · have hN' : ¬ (N : Int) < (l.length : Int) := by omega
      rw [if_neg (fun h => hN h.2)] at hE
      subst hE
      rw [if_pos rfl, if_pos rfl]
      repeat' (first | refine sA ?_ | with_reducible refine W_tf rfl (fun h => ?_) (fun h => ?_) | ((with_reducible first | refine hK _ ?_ | refine hK _ _ ?_); clear hK K) | ((first | refine sB ?_ | (with_reducible first | refine ops_cons (fun K hK => ?_) | refine W_reg lv12MdI ?_) | with_reducible refine callV_snap ?_ | ((with_reducible refine call_go telFS telF_ok ?_); refine ⟨alk, _, _, telF_at , ?_⟩) | with_reducible refine And.intro (fun h => ?_) (fun h => ?_) | with_reducible refine And.intro (by omega) ?_); (try simp only [go_sem, seval, reduceCtorEq, hN', lv12MdI, Tryz.ntmps12, Tryz.results12, aftS])) | fail)
  · rw [if_neg (fun h => h0 h.1)] at hE
    subst hE
    rw [if_neg h0]
    repeat' (first | refine sA ?_ | with_reducible refine W_tf rfl (fun h => ?_) (fun h => ?_) | ((with_reducible first | refine hK _ ?_ | refine hK _ _ ?_); clear hK K) | ((first | refine sB ?_ | (with_reducible first | refine ops_cons (fun K hK => ?_) | refine W_reg lv12MdI ?_) | with_reducible refine callV_snap ?_ | ((with_reducible refine call_go telFS telF_ok ?_); refine ⟨alk, _, _, telF_at , ?_⟩) | with_reducible refine And.intro (fun h => ?_) (fun h => ?_) | with_reducible refine And.intro (by omega) ?_); (try simp only [go_sem, seval, reduceCtorEq, h0, lv12MdI, Tryz.ntmps12, Tryz.results12, aftS])) | fail)
def aftrS : Spec := { al := true, rel := fun args ins res outs => ∃ l : List Oc, l.length ≤ 1000000 ∧ args = [ocL l] ∧ ins = [] ∧ res = .tup [syA (afT l), iv (afE l)] ∧ outs = [] }
theorem aftr_at (l : List Oc) (h : l.length ≤ 1000000) : aftrS.rel [ocL l] [] (.tup [syA (afT l), iv (afE l)]) [] := ⟨l, h, rfl, rfl, rfl, rfl⟩
theorem aftr_ok : Ok Tryz.prog 12 aftrS := by
  refine ok_frz aft_ok' aftrS rfl ?_
  rintro args ins res outs ⟨l, h, rfl, rfl, rfl, rfl⟩
  refine ⟨rfl, rfl, _, _, ⟨l, h, rfl, rfl, rfl, rfl⟩, ?_⟩
  by_cases h : afE l = 0
  · rw [if_pos h]; rfl
  · have e : afT l = syZ := if_neg h
    rw [if_neg h, e]; rfl
end Go.Proofs.YtpocnjliigjidaaGreat
namespace Go.Proofs.YtpocnjliigjidaaGreat
open Go.RowKit
set_option maxRecDepth 100000
set_option linter.unusedSimpArgs false
set_option linter.unusedVariables false
def fk1 (k : Nat) (outs : List Ob) : AV → Option AV
  | .row i sz o len => if i = k then some (.row 0 sz o len) else frz1 outs (.row i sz o len)
  | .d x => some (.d x)
  | .nil => some (.d (.sl []))
  | _ => none
def fkL (k : Nat) (outs : List Ob) : List AV → Option (List AV)
  | [] => some []
  | x :: l => (fk1 k outs x).bind fun y => (fkL k outs l).map (y :: ·)
theorem fkL_get {k : Nat} {outs : List Ob} : ∀ {l m : List AV}, fkL k outs l = some m → m.length = l.length ∧ ∀ (j : Nat) (x y : AV), l[j]? = some x → m[j]? = some y → fk1 k outs x = some y
  | [], m, h => by simp [fkL] at h; subst h; simp
  | z :: l, m, h => by
    simp only [fkL, Option.bind_eq_some_iff, Option.map_eq_some_iff] at h
    obtain ⟨y, hy, m', hm, rfl⟩ := h
    obtain ⟨h1, h2⟩ := fkL_get hm
    refine ⟨by simp [h1], fun j x y' hx hy' => ?_⟩
    cases j with
    | zero => simp at hx hy'; subst hx hy'; exact hy
    | succ j => simp at hx hy'; exact h2 j x y' hx hy'
theorem fk1_rep {w : World} {S V' : Nat → Prop} {μ μ2 : Mu} {outs : List Ob} {k : Nat} (hob : ∀ i o, outs[i]? = some o → ObRep w S μ i o) (hV : ∀ b, S b → V' b) (hnew : ∀ i b, i ≠ k → μ i = some (some b) → V' b) (h2 : μ2 0 = μ k) {x y : AV} {v : Value} (h : fk1 k outs x = some y) (hr : Rep w S μ x v) : Rep w V' μ2 y v := by
  cases hr with
  | d hd => simp [fk1] at h; subst h; exact .d (hd.evolve (Ev.refl w (fun _ => False)) (fun _ h => h.elim) hV)
  | nil => simp [fk1] at h; subst h; exact .d .nil
  | @rowNil i sz h1 =>
    simp only [fk1] at h
    by_cases hi : i = k
    · rw [if_pos hi] at h; injection h with h; subst h; subst hi; exact .rowNil (h2.trans h1)
    · rw [if_neg hi] at h
      simp only [frz1] at h
      split at h
      · split at h
        · injection h with h; subst h; simpa using Rep.d (.nil)
        · cases h
      · cases h
  | @row i sz o len b c arr t g1 g2 g3 g4 g5 =>
    simp only [fk1] at h
    by_cases hi : i = k
    · rw [if_pos hi] at h; injection h with h; subst h; subst hi; exact .row (h2.trans g1) g2 g3 g4 g5
    · rw [if_neg hi] at h
      simp only [frz1] at h
      split at h
      · rename_i t' sz' rs hi'
        split at h
        · rename_i hc
          obtain ⟨rfl, hl⟩ := hc
          injection h with h; subst h
          exact .d (frz_rows (hob i _ hi') g1 hV (hnew i b hi g1) (by simp; omega) g3)
        · cases h
      · cases h
  | _ => simp [fk1] at h
theorem ok_frzk {P : Program} {f : FuncId} {s : Spec} (hok : Ok P f s) (s' : Spec) (hal : s'.al = true)
    (h : ∀ args ins res' outs', s'.rel args ins res' outs' → ins = [] ∧ ∃ cs outs k t sz rs cs', s.rel args [] (.agg cs) outs ∧ outs[k]? = some (.rows t sz rs) ∧ outs' = [.rows t sz rs] ∧ fkL k outs cs = some cs' ∧ res' = .agg cs') : Ok P f s' := by
  refine ⟨hok.1, ?_⟩
  intro args ins res' outs' hrel w V Bo μ vals hin
  obtain ⟨rfl, cs, outs, k, t, sz, rs, cs', hr, hk, rfl, hf, rfl⟩ := h _ _ _ _ hrel
  refine (hok.2 args [] (.agg cs) outs hr w V Bo μ vals hin).mono ?_
  rintro e w' ⟨v, μ', rfl, ho⟩
  have hkl : k < outs.length := (List.getElem?_eq_some_iff.1 hk).1
  have hnd : ∀ i, (([] : List Ob).length ≤ i ∨ i ∉ s.dead) := fun i => .inl (Nat.zero_le _)
  have hV : ∀ b, outS s.al V w w' μ' outs.length b → outS s'.al V w w' (fun j => if j = 0 then μ' k else none) [Ob.rows t sz rs].length b := by
    intro b hb
    rcases hb with ⟨_, hv⟩ | ⟨h1, h2, h3⟩
    · exact .inl ⟨hal, hv⟩
    · refine .inr ⟨h1, h2, fun i hi => ?_⟩
      have : i = 0 := by simpa using hi
      subst this
      exact h3 k hkl
  have hnew : ∀ i b, i ≠ k → μ' i = some (some b) → outS s'.al V w w' (fun j => if j = 0 then μ' k else none) [Ob.rows t sz rs].length b := by
    intro i b hik hb
    have hil : i < outs.length := by
      rcases Nat.lt_or_ge i outs.length with h | h
      · exact h
      · rw [ho.lt i h] at hb; cases hb
    have := ho.new i b (Nat.zero_le _) hb
    refine .inr ⟨?_, this.2, fun j hj => ?_⟩
    · rcases this.1 with h1 | ⟨j, hj, _⟩
      · exact h1
      · exact absurd hj (by simp)
    · have : j = 0 := by simpa using hj
      subst this
      intro e
      exact hik (ho.inj i k b hil hkl (hnd _) (hnd _) hb e)
  refine ⟨v, fun j => if j = 0 then μ' k else none, rfl, ho.ev, fun i x hx => ?_, ?_, fun i o hi _ => ?_, fun i b _ hb => ?_, fun i j b hi hj _ _ _ _ => ?_, fun i hi => ?_, Nat.zero_le _⟩
  · rw [hin.lt i (by simp)] at hx; cases hx
  · obtain ⟨hl, hg⟩ := fkL_get hf
    have hres := ho.res
    cases hres with
    | agg h1 h2 h3 =>
      refine .agg (by omega) (fun j y u hy hu => ?_) h3
      have hj : j < cs.length := by rw [← hl]; exact (List.getElem?_eq_some_iff.1 hy).1
      exact fk1_rep (fun i o hi => ho.ob i o hi (hnd _)) hV hnew rfl (hg j _ y (List.getElem?_eq_getElem hj) hy) (h2 j _ u (List.getElem?_eq_getElem hj) hu)
  · have : i = 0 := by have := (List.getElem?_eq_some_iff.1 hi).1; simpa using this
    subst this
    simp at hi
    subst hi
    cases ho.ob k _ hk (hnd _) with
    | rowsNil b1 b2 => exact .rowsNil b1 b2
    | rows b1 b2 b3 b4 b5 b6 => exact .rows b1 b2 b3 b4 b5 (fun p j r x u hr hx hu => (b6 p j r x u hr hx hu).evolve (Ev.refl w' (fun _ => False)) (fun _ h => h.elim) hV)
  · by_cases h0 : i = 0
    · rw [if_pos h0] at hb
      have := ho.new k b (Nat.zero_le _) hb
      exact ⟨.inl (by rcases this.1 with h1 | ⟨j, hj, _⟩; exact h1; exact absurd hj (by simp)), this.2⟩
    · rw [if_neg h0] at hb; cases hb
  · simp at hi hj; omega
  · have : i ≠ 0 := by simp at hi; omega
    exact if_neg this
def rOwS : Spec := { al := true, rel := fun args ins res outs => ∃ s : Sy, s.m.1.length ≤ 1000000 ∧ s.m.2.1.length ≤ 1000000 ∧ s.m.2.2.length ≤ 1000000 ∧ s.W.length ≤ 1000000 ∧ args = [syA s] ∧ ins = [] ∧ res = .agg [.row 0 1 0 s.m.1.length, .row 1 1 0 s.m.2.1.length, .row 2 4 0 s.m.2.2.length, .row 3 1 0 s.W.length, wv (s.L : Int)] ∧ outs = [.rows 4 1 (s.m.1.map encDB), .rows 24 1 (s.m.2.1.map encU), .rows 90 4 (s.m.2.2.map encCl), .rows 24 1 (s.W.map encU)] }
theorem rOw_ok : Ok Tryz.prog 76 rOwS := by
  refine fn_ok rOwS Tryz.func76 rfl rfl ?_
  rintro args ins res outs ⟨s, h2, h3, h4, h5, rfl, rfl, rfl, rfl⟩
  refine ⟨by simp [Tryz.ntmps76], fun w0 V Bo mu0 => ?_⟩
  repeat' (first | refine sA ?_ | ((with_reducible first | refine hK _ ?_ | refine hK _ _ ?_); clear hK K) | ((with_reducible refine And.intro (encB.rows _) ?_)) | ((with_reducible refine And.intro (encUe.rows _) ?_)) | ((with_reducible refine And.intro (encCle.rows _) ?_)) | ((first | refine sC ?_ | (with_reducible first | refine ops_cons (fun K hK => ?_) | refine opsd_cons (fun K hK => ?_) | refine W_reg [(0, [1, 2]), (1, [1, 2, 3]), (2, [2])] ?_ | refine W_drw [(0, [1, 2]), (1, [1, 2, 3]), (2, [2])] (by kernel_rfl) ?_) | ((with_reducible refine opsd_nil ?_); refine And.intro (by kernel_rfl) ?_) | with_reducible refine callV_snap ?_ | with_reducible refine And.intro (fun h => ?_) (fun h => ?_) | with_reducible refine And.intro (by omega) ?_); (try simp only [go_sem, seval, reduceCtorEq, Tryz.ntmps76, Tryz.results76, rOwS])) | fail)
  refine W_ret (endQ_ret (end_at [4, 6, 8, 10] ?_))
  simp [go_sem, Tryz.results76, rOwS]
def rOwKS : Spec := { al := true, rel := fun args ins res outs => ∃ s : Sy, s.m.1.length ≤ 1000000 ∧ s.m.2.1.length ≤ 1000000 ∧ s.m.2.2.length ≤ 1000000 ∧ s.W.length ≤ 1000000 ∧ args = [syA s] ∧ ins = [] ∧ res = syR 0 s ∧ outs = [.rows 24 1 (s.W.map encU)] }
theorem rOwK_at (s : Sy) (h2 : s.m.1.length ≤ 1000000) (h3 : s.m.2.1.length ≤ 1000000) (h4 : s.m.2.2.length ≤ 1000000) (h5 : s.W.length ≤ 1000000) : rOwKS.rel [syA s] [] (syR 0 s) [.rows 24 1 (s.W.map encU)] := ⟨s, h2, h3, h4, h5, rfl, rfl, rfl, rfl⟩
theorem rOwK_ok : Ok Tryz.prog 76 rOwKS := by
  refine ok_frzk rOw_ok rOwKS rfl ?_
  rintro args ins res outs ⟨s, h2, h3, h4, h5, rfl, rfl, rfl, rfl⟩
  refine ⟨rfl, _, _, 3, _, _, _, _, ⟨s, h2, h3, h4, h5, rfl, rfl, rfl, rfl⟩, rfl, rfl, ?_, rfl⟩
  simp [fkL, fk1, frz1, List.take_of_length_le]
abbrev rMNewS : Spec := MNewS
theorem rMNew_ok : Ok Tryz.prog 25 MNewS := by
  refine fn_ok MNewS Tryz.func25 rfl rfl ?_
  rintro args ins res outs ⟨rfl, rfl, rfl, rfl⟩
  refine ⟨by simp [Tryz.ntmps25], fun w0 V Bo mu0 => ?_⟩
  repeat' (first | refine sA ?_ | ((with_reducible first | refine hK _ ?_ | refine hK _ _ ?_); clear hK K) | ((first | refine sC ?_ | (with_reducible first | refine ops_cons (fun K hK => ?_) | refine opsd_cons (fun K hK => ?_) | refine W_reg [(0, [0]), (1, [0])] ?_ | refine W_drw [(0, [0]), (1, [0])] (by kernel_rfl) ?_) | ((with_reducible refine opsd_nil ?_); refine And.intro (by kernel_rfl) ?_) | with_reducible refine callV_snap ?_ | ((with_reducible refine call_go rNewFS rNewF_ok ?_); refine ⟨alk, _, _, rNewF_at , ?_⟩) | with_reducible refine And.intro (fun h => ?_) (fun h => ?_) | with_reducible refine And.intro (by omega) ?_); (try simp only [go_sem, seval, reduceCtorEq, Tryz.ntmps25, Tryz.results25, MNewS])) | fail)
  refine W_ret (endQ_ret (end_at [1] ?_))
  simp [go_sem, Tryz.results25, MNewS, encU, sy0]
abbrev rMNewFS : Spec := MNewFS
theorem rMNewF_at : rMNewFS.rel [] [] (syA sy0) [] := ⟨rfl, rfl, rfl, rfl⟩
theorem rMNewF_ok : Ok Tryz.prog 25 rMNewFS := by
  refine ok_frz rMNew_ok MNewFS rfl ?_
  rintro args ins res outs ⟨rfl, rfl, rfl, rfl⟩
  exact ⟨rfl, rfl, _, _, ⟨rfl, rfl, rfl, rfl⟩, rfl⟩
end Go.Proofs.YtpocnjliigjidaaGreat
