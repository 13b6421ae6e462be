/- The specification's Check by the engine. -/
import Derived.Test.YtacfipmigkbncaaBdH
namespace Go.Proofs.Ytacfipmigkbncaa
open Go.RowKit
set_option maxRecDepth 100000
set_option linter.unusedSimpArgs false
set_option linter.unusedVariables false

abbrev lv52BdJ : List (Nat × List Nat) := [(0, [1]), (1, [1, 14]), (2, [2, 3]), (3, [1, 4]), (4, [1, 4, 19]), (5, [1, 4]), (6, [1, 4, 5]), (7, [1, 4, 5, 41]), (8, [2, 3]), (9, [1, 4, 5, 49]), (10, [2, 3]), (11, [1, 4, 5, 73]), (12, [2, 3]), (13, [1, 4, 5, 6]), (14, [1, 4, 5, 6, 77]), (15, [1, 4, 5, 6]), (16, [1, 4, 5, 6, 122]), (17, [2, 3]), (18, [2, 3])]
def rsizeS : Spec := { rel := fun args ins res outs => ∃ o : Int, 0 ≤ o ∧ o ≤ 6 ∧ args = [iv o] ∧ ins = [] ∧ res = iv (2 ^ o.toNat) ∧ outs = [] }
theorem rsize_at (o : Int) (h0 : 0 ≤ o) (h1 : o ≤ 6) : rsizeS.rel [iv o] [] (iv (2 ^ o.toNat)) [] := ⟨o, h0, h1, rfl, rfl, rfl, rfl⟩
theorem rsize_ok : Ok Try.prog 76 rsizeS := by
  refine fn_ok rsizeS Try.func76 rfl rfl ?_
  rintro args ins res outs ⟨o, h0, h1, rfl, rfl, rfl, rfl⟩
  refine ⟨by simp [Try.ntmps76], fun w0 V Bo mu0 => ?_⟩
  have hp := pow64 o h0 h1
  repeat' (first
    | (with_reducible first | refine W_seq ?_ | refine endQ_ret ?_ | refine endQ_normal ?_)
    | ((with_reducible first | refine hK _ ?_ | refine hK _ _ ?_); clear hK K)
    | ((first | (with_reducible first | refine ops_cons (fun K hK => ?_) | refine ops_nil ?_ | refine fit_i64 (by omega) ?_ | refine fit_u8 (by omega) ?_ | refine fit_u64 (by omega) ?_ | refine fit_u32 (by omega) ?_ | refine fit_any ?_ | refine sh_in (by simp only [IntKind.bits]; omega) ?_) | (with_reducible first | refine W_reg [(0, [0]), (1, [2])] ?_ | refine W_ret ?_ | refine end_at0 ?_) | (with_reducible refine And.intro (fun h => ?_) (fun h => ?_)) | (with_reducible refine And.intro (by omega) ?_)); (try simp only [go_sem, seval, reduceCtorEq, Int.one_mul, Try.ntmps76, Try.results76, rsizeS]))
    | fail)
def withinS : Spec := { rel := fun args ins res outs => ∃ n a o : Int, 0 ≤ n ∧ n ≤ 256 ∧ 0 ≤ o ∧ o ≤ 6 ∧ args = [iv n, .agg [iv a, iv o]] ∧ ins = [] ∧ res = bv (decide (¬ (a < 0 ∨ n - 2 ^ o.toNat < a))) ∧ outs = [] }
abbrev withinYS : Spec := withinS
abbrev withinNS : Spec := withinS
theorem withinY_at (n a o : Int) (n0 : 0 ≤ n) (n1 : n ≤ 256) (h0 : 0 ≤ o) (h1 : o ≤ 6) (h : ¬ (a < 0 ∨ n - 2 ^ o.toNat < a)) : withinYS.rel [iv n, .agg [iv a, iv o]] [] (bv true) [] := ⟨n, a, o, n0, n1, h0, h1, rfl, rfl, by rw [decide_eq_true h], rfl⟩
theorem withinN_at (n a o : Int) (n0 : 0 ≤ n) (n1 : n ≤ 256) (h0 : 0 ≤ o) (h1 : o ≤ 6) (h : a < 0 ∨ n - 2 ^ o.toNat < a) : withinNS.rel [iv n, .agg [iv a, iv o]] [] (bv false) [] := ⟨n, a, o, n0, n1, h0, h1, rfl, rfl, by rw [decide_eq_false (fun hh => hh h)], rfl⟩
theorem within_ok : Ok Try.prog 75 withinS := by
  refine fn_ok withinS Try.func75 rfl rfl ?_
  rintro args ins res outs ⟨n, a, o, n0, n1, h0, h1, rfl, rfl, rfl, rfl⟩
  refine ⟨by simp [Try.ntmps75], fun w0 V Bo mu0 => ?_⟩
  have hp := pow64 o h0 h1
  by_cases a0 : a < 0
  · have a1 : ¬ 0 ≤ a := by omega
    rw [decide_eq_false (fun hh => hh (.inl a0))]
    repeat' (first
      | (with_reducible first | refine W_seq ?_ | refine endQ_ret ?_ | refine endQ_normal ?_)
      | ((with_reducible first | refine hK _ ?_ | refine hK _ _ ?_); clear hK K)
      | ((first | (with_reducible first | refine ops_cons (fun K hK => ?_) | refine opsd_cons (fun K hK => ?_) | refine ops_nil ?_ | refine fit_i64 (by omega) ?_ | refine fit_any ?_) | ((with_reducible refine opsd_nil ?_); refine And.intro (by kernel_rfl) ?_) | with_reducible refine callV_snap ?_ | ((with_reducible refine call_go rsizeS rsize_ok ?_); refine ⟨(by first | exact alOk_nil _ | exact alOk_f rfl), _, _, rsize_at _ h0 h1, ?_⟩) | (with_reducible first | refine W_reg [(0, [0, 3]), (1, [4])] ?_ | refine W_drw [(0, [0, 3]), (1, [4])] (by kernel_rfl) ?_ | refine W_ret ?_ | refine end_at0 ?_) | (with_reducible refine And.intro (fun h => ?_) (fun h => ?_)) | (with_reducible refine And.intro (by omega) ?_)); (try simp only [go_sem, seval, reduceCtorEq, a1, Try.ntmps75, Try.results75, withinS]))
      | fail)
  · have a1 : 0 ≤ a := by omega
    by_cases a2 : a ≤ n
    · by_cases a3 : 2 ^ o.toNat ≤ n - a
      · rw [decide_eq_true (by omega)]
        repeat' (first
          | (with_reducible first | refine W_seq ?_ | refine endQ_ret ?_ | refine endQ_normal ?_)
          | ((with_reducible first | refine hK _ ?_ | refine hK _ _ ?_); clear hK K)
          | ((first | (with_reducible first | refine ops_cons (fun K hK => ?_) | refine opsd_cons (fun K hK => ?_) | refine ops_nil ?_ | refine fit_i64 (by omega) ?_ | refine fit_any ?_) | ((with_reducible refine opsd_nil ?_); refine And.intro (by kernel_rfl) ?_) | with_reducible refine callV_snap ?_ | ((with_reducible refine call_go rsizeS rsize_ok ?_); refine ⟨(by first | exact alOk_nil _ | exact alOk_f rfl), _, _, rsize_at _ h0 h1, ?_⟩) | (with_reducible first | refine W_reg [(0, [0, 3]), (1, [4])] ?_ | refine W_drw [(0, [0, 3]), (1, [4])] (by kernel_rfl) ?_ | refine W_ret ?_ | refine end_at0 ?_) | (with_reducible refine And.intro (fun h => ?_) (fun h => ?_)) | (with_reducible refine And.intro (by omega) ?_)); (try simp only [go_sem, seval, reduceCtorEq, a1, a2, a3, Try.ntmps75, Try.results75, withinS]))
          | fail)
      · rw [decide_eq_false (by omega)]
        repeat' (first
          | (with_reducible first | refine W_seq ?_ | refine endQ_ret ?_ | refine endQ_normal ?_)
          | ((with_reducible first | refine hK _ ?_ | refine hK _ _ ?_); clear hK K)
          | ((first | (with_reducible first | refine ops_cons (fun K hK => ?_) | refine opsd_cons (fun K hK => ?_) | refine ops_nil ?_ | refine fit_i64 (by omega) ?_ | refine fit_any ?_) | ((with_reducible refine opsd_nil ?_); refine And.intro (by kernel_rfl) ?_) | with_reducible refine callV_snap ?_ | ((with_reducible refine call_go rsizeS rsize_ok ?_); refine ⟨(by first | exact alOk_nil _ | exact alOk_f rfl), _, _, rsize_at _ h0 h1, ?_⟩) | (with_reducible first | refine W_reg [(0, [0, 3]), (1, [4])] ?_ | refine W_drw [(0, [0, 3]), (1, [4])] (by kernel_rfl) ?_ | refine W_ret ?_ | refine end_at0 ?_) | (with_reducible refine And.intro (fun h => ?_) (fun h => ?_)) | (with_reducible refine And.intro (by omega) ?_)); (try simp only [go_sem, seval, reduceCtorEq, a1, a2, a3, Try.ntmps75, Try.results75, withinS]))
          | fail)
    · rw [decide_eq_false (by omega)]
      repeat' (first
        | (with_reducible first | refine W_seq ?_ | refine endQ_ret ?_ | refine endQ_normal ?_)
        | ((with_reducible first | refine hK _ ?_ | refine hK _ _ ?_); clear hK K)
        | ((first | (with_reducible first | refine ops_cons (fun K hK => ?_) | refine opsd_cons (fun K hK => ?_) | refine ops_nil ?_ | refine fit_i64 (by omega) ?_ | refine fit_any ?_) | ((with_reducible refine opsd_nil ?_); refine And.intro (by kernel_rfl) ?_) | with_reducible refine callV_snap ?_ | ((with_reducible refine call_go rsizeS rsize_ok ?_); refine ⟨(by first | exact alOk_nil _ | exact alOk_f rfl), _, _, rsize_at _ h0 h1, ?_⟩) | (with_reducible first | refine W_reg [(0, [0, 3]), (1, [4])] ?_ | refine W_drw [(0, [0, 3]), (1, [4])] (by kernel_rfl) ?_ | refine W_ret ?_ | refine end_at0 ?_) | (with_reducible refine And.intro (fun h => ?_) (fun h => ?_)) | (with_reducible refine And.intro (by omega) ?_)); (try simp only [go_sem, seval, reduceCtorEq, a1, a2, Try.ntmps75, Try.results75, withinS]))
        | fail)
theorem withinY_ok : Ok Try.prog 75 withinYS := within_ok
theorem withinN_ok : Ok Try.prog 75 withinNS := within_ok

abbrev rCheckS : Spec := CheckS
theorem rCheck_at (n : Int) (l : List Bi) (h : l.length ≤ 1000000) : rCheckS.rel [zv n l] [] (.tup [iv (zchk n l).1, iv (zchk n l).2]) [] := Check_at n l h
set_option maxHeartbeats 8000000 in
theorem rCheck_ok : Ok Try.prog 52 rCheckS := by
  refine fn_ok rCheckS Try.func52 rfl rfl ?_
  rintro args ins res outs ⟨n, l, hl, rfl, rfl, rfl, rfl⟩
  refine ⟨by simp [Try.ntmps52], fun w0 V Bo mu0 => ?_⟩
  by_cases n0 : n < 0
  · have e : zchk n l = (2, 0) := by unfold zchk; rw [if_pos (.inl n0)]
    rw [e]
    repeat' (first
      | (with_reducible first | refine W_seq ?_ | refine W_condT rfl ?_ | refine W_condF rfl ?_ | refine W_tf rfl (fun h => ?_) (fun h => ?_) | refine W_block ?_ | refine endQ_ret ?_ | refine endQ_normal ?_)
      | ((with_reducible first | refine hK _ ?_ | refine hK _ _ ?_); clear hK K)
      | ((first | (with_reducible first | refine ops_cons (fun K hK => ?_) | refine opsd_cons (fun K hK => ?_) | refine ops_nil ?_ | refine fit_i64 (by omega) ?_ | refine fit_any ?_ | refine rem_nn (by omega) ?_ | refine rem_any ?_) | ((with_reducible refine opsd_nil ?_); refine And.intro (by kernel_rfl) ?_) | with_reducible refine callV_snap ?_ | (with_reducible first | refine idx_map (by omega) ?_ | refine W_reg lv52BdJ ?_ | refine W_drw lv52BdJ (by kernel_rfl) ?_ | refine W_skip ?_ | refine W_exit ?_ | refine W_ret ?_ | refine end_at0 ?_) | (with_reducible refine And.intro (fun h => ?_) (fun h => ?_)) | (with_reducible refine And.intro (by omega) ?_)); (try simp only [go_sem, seval, reduceCtorEq, n0, lv52BdJ, Try.ntmps52, Try.results52, CheckS]))
      | fail)
  by_cases n1 : 256 < n
  · have e : zchk n l = (2, 0) := by unfold zchk; rw [if_pos (.inr n1)]
    rw [e]
    repeat' (first
      | (with_reducible first | refine W_seq ?_ | refine W_condT rfl ?_ | refine W_condF rfl ?_ | refine W_tf rfl (fun h => ?_) (fun h => ?_) | refine W_block ?_ | refine endQ_ret ?_ | refine endQ_normal ?_)
      | ((with_reducible first | refine hK _ ?_ | refine hK _ _ ?_); clear hK K)
      | ((first | (with_reducible first | refine ops_cons (fun K hK => ?_) | refine opsd_cons (fun K hK => ?_) | refine ops_nil ?_ | refine fit_i64 (by omega) ?_ | refine fit_any ?_ | refine rem_nn (by omega) ?_ | refine rem_any ?_) | ((with_reducible refine opsd_nil ?_); refine And.intro (by kernel_rfl) ?_) | with_reducible refine callV_snap ?_ | (with_reducible first | refine idx_map (by omega) ?_ | refine W_reg lv52BdJ ?_ | refine W_drw lv52BdJ (by kernel_rfl) ?_ | refine W_skip ?_ | refine W_exit ?_ | refine W_ret ?_ | refine end_at0 ?_) | (with_reducible refine And.intro (fun h => ?_) (fun h => ?_)) | (with_reducible refine And.intro (by omega) ?_)); (try simp only [go_sem, seval, reduceCtorEq, n0, n1, lv52BdJ, Try.ntmps52, Try.results52, CheckS]))
      | fail)
  have e : zchk n l = bgo n none 0 l := by unfold zchk; rw [if_neg (by omega)]
  rw [e]
  generalize hR : bgo n none 0 l = R
  have nn0 : 0 ≤ n := by omega
  have nn1 : n ≤ 256 := by omega
  repeat' (first
    | (with_reducible first | refine W_seq ?_ | refine W_condT rfl ?_ | refine W_condF rfl ?_ | refine W_tf rfl (fun h => ?_) (fun h => ?_) | refine W_block ?_ | refine endQ_ret ?_ | refine endQ_normal ?_)
    | ((with_reducible first | refine hK _ ?_ | refine hK _ _ ?_); clear hK K)
    | ((first | (with_reducible first | refine ops_cons (fun K hK => ?_) | refine opsd_cons (fun K hK => ?_) | refine ops_nil ?_ | refine fit_i64 (by omega) ?_ | refine fit_any ?_ | refine rem_nn (by omega) ?_ | refine rem_any ?_) | ((with_reducible refine opsd_nil ?_); refine And.intro (by kernel_rfl) ?_) | with_reducible refine callV_snap ?_ | (with_reducible first | refine idx_map (by omega) ?_ | refine W_reg lv52BdJ ?_ | refine W_drw lv52BdJ (by kernel_rfl) ?_ | refine W_skip ?_ | refine W_exit ?_ | refine W_ret ?_ | refine end_at0 ?_) | (with_reducible refine And.intro (fun h => ?_) (fun h => ?_)) | (with_reducible refine And.intro (by omega) ?_)); (try simp only [go_sem, seval, reduceCtorEq, n0, n1, lv52BdJ, Try.ntmps52, Try.results52, CheckS]))
    | fail)
  refine W_loop (fun i : Nat => ⟨[(1, .ptr 0 0), (4, iv i)], [some (.box 59 [iv n, dK l])]⟩) (fun i => i ≤ l.length ∧ Pre n l i ∧ bgo n (prv l i) i (l.drop i) = R) (fun i => l.length - i) 0 ⟨Nat.zero_le _, Pre.zero n l, hR⟩ [0] ?_ ?_
  · simp [go_sem]
  clear hR e
  rintro i ⟨hi, hpre, hgo⟩
  by_cases hlt : i < l.length
  · have hki : (i : Int) < l.length := by omega
    rw [drop_get l i hlt] at hgo
    have hb0 : encBk l[i] = [.int .i64 (l[i]).1, .int .i64 (l[i]).2] := rfl
    by_cases h1a : (l[i]).2 < 0
    · rw [bgo_one (by rw [oneB_ord (.inl h1a)]; decide), oneB_ord (.inl h1a)] at hgo
      subst hgo
      repeat' (first
        | (with_reducible first | refine W_seq ?_ | refine W_condT rfl ?_ | refine W_condF rfl ?_ | refine W_tf rfl (fun h => ?_) (fun h => ?_) | refine W_block ?_ | refine endQ_ret ?_ | refine endQ_normal ?_)
        | ((with_reducible first | refine hK _ ?_ | refine hK _ _ ?_); clear hK K)
        | ((first | (with_reducible first | refine ops_cons (fun K hK => ?_) | refine opsd_cons (fun K hK => ?_) | refine ops_nil ?_ | refine fit_i64 (by omega) ?_ | refine fit_any ?_ | refine rem_nn (by omega) ?_ | refine rem_any ?_) | ((with_reducible refine opsd_nil ?_); refine And.intro (by kernel_rfl) ?_) | with_reducible refine callV_snap ?_ | (with_reducible first | refine idx_map (by omega) ?_ | refine W_reg lv52BdJ ?_ | refine W_drw lv52BdJ (by kernel_rfl) ?_ | refine W_skip ?_ | refine W_exit ?_ | refine W_ret ?_ | refine end_at0 ?_) | (with_reducible refine And.intro (fun h => ?_) (fun h => ?_)) | (with_reducible refine And.intro (by omega) ?_)); (try simp only [go_sem, seval, reduceCtorEq, hki, hb0, h1a, lv52BdJ, Try.ntmps52, Try.results52, CheckS]))
        | fail)
    by_cases h1b : 6 < (l[i]).2
    · rw [bgo_one (by rw [oneB_ord (.inr h1b)]; decide), oneB_ord (.inr h1b)] at hgo
      subst hgo
      repeat' (first
        | (with_reducible first | refine W_seq ?_ | refine W_condT rfl ?_ | refine W_condF rfl ?_ | refine W_tf rfl (fun h => ?_) (fun h => ?_) | refine W_block ?_ | refine endQ_ret ?_ | refine endQ_normal ?_)
        | ((with_reducible first | refine hK _ ?_ | refine hK _ _ ?_); clear hK K)
        | ((first | (with_reducible first | refine ops_cons (fun K hK => ?_) | refine opsd_cons (fun K hK => ?_) | refine ops_nil ?_ | refine fit_i64 (by omega) ?_ | refine fit_any ?_ | refine rem_nn (by omega) ?_ | refine rem_any ?_) | ((with_reducible refine opsd_nil ?_); refine And.intro (by kernel_rfl) ?_) | with_reducible refine callV_snap ?_ | (with_reducible first | refine idx_map (by omega) ?_ | refine W_reg lv52BdJ ?_ | refine W_drw lv52BdJ (by kernel_rfl) ?_ | refine W_skip ?_ | refine W_exit ?_ | refine W_ret ?_ | refine end_at0 ?_) | (with_reducible refine And.intro (fun h => ?_) (fun h => ?_)) | (with_reducible refine And.intro (by omega) ?_)); (try simp only [go_sem, seval, reduceCtorEq, hki, hb0, h1a, h1b, lv52BdJ, Try.ntmps52, Try.results52, CheckS]))
        | fail)
    have h1 : ¬ ((l[i]).2 < 0 ∨ 6 < (l[i]).2) := by omega
    have o0 : 0 ≤ (l[i]).2 := by omega
    have o1 : (l[i]).2 ≤ 6 := by omega
    have hp := pow64 (l[i]).2 o0 o1
    by_cases h2 : (l[i]).1 < 0 ∨ n - 2 ^ (l[i]).2.toNat < (l[i]).1
    · rw [bgo_one (by rw [oneB_rng h1 h2]; decide), oneB_rng h1 h2] at hgo
      subst hgo
      repeat' (first
        | (with_reducible first | refine W_seq ?_ | refine W_condT rfl ?_ | refine W_condF rfl ?_ | refine W_tf rfl (fun h => ?_) (fun h => ?_) | refine W_block ?_ | refine endQ_ret ?_ | refine endQ_normal ?_)
        | ((with_reducible first | refine hK _ ?_ | refine hK _ _ ?_); clear hK K)
        | ((first | (with_reducible first | refine ops_cons (fun K hK => ?_) | refine opsd_cons (fun K hK => ?_) | refine ops_nil ?_ | refine fit_i64 (by omega) ?_ | refine fit_any ?_ | refine rem_nn (by omega) ?_ | refine rem_any ?_) | ((with_reducible refine opsd_nil ?_); refine And.intro (by kernel_rfl) ?_) | with_reducible refine callV_snap ?_ | ((with_reducible refine call_go withinNS withinN_ok ?_); refine ⟨(by first | exact alOk_nil _ | exact alOk_f rfl), _, _, withinN_at _ _ _ nn0 nn1 o0 o1 h2, ?_⟩) | (with_reducible first | refine idx_map (by omega) ?_ | refine W_reg lv52BdJ ?_ | refine W_drw lv52BdJ (by kernel_rfl) ?_ | refine W_skip ?_ | refine W_exit ?_ | refine W_ret ?_ | refine end_at0 ?_) | (with_reducible refine And.intro (fun h => ?_) (fun h => ?_)) | (with_reducible refine And.intro (by omega) ?_)); (try simp only [go_sem, seval, reduceCtorEq, hki, hb0, h1a, h1b, lv52BdJ, Try.ntmps52, Try.results52, CheckS]))
        | fail)
    by_cases h4 : (l[i]).1 % 2 ^ (l[i]).2.toNat = 0
    case neg =>
      rw [bgo_one (by rw [oneB_al (n := n) h1 h2 h4]; decide), oneB_al (n := n) h1 h2 h4] at hgo
      subst hgo
      repeat' (first
        | (with_reducible first | refine W_seq ?_ | refine W_condT rfl ?_ | refine W_condF rfl ?_ | refine W_tf rfl (fun h => ?_) (fun h => ?_) | refine W_block ?_ | refine endQ_ret ?_ | refine endQ_normal ?_)
        | ((with_reducible first | refine hK _ ?_ | refine hK _ _ ?_); clear hK K)
        | ((first | (with_reducible first | refine ops_cons (fun K hK => ?_) | refine opsd_cons (fun K hK => ?_) | refine ops_nil ?_ | refine fit_i64 (by omega) ?_ | refine fit_any ?_ | refine rem_nn (by omega) ?_ | refine rem_any ?_) | ((with_reducible refine opsd_nil ?_); refine And.intro (by kernel_rfl) ?_) | with_reducible refine callV_snap ?_ | ((with_reducible refine call_go withinYS withinY_ok ?_); refine ⟨(by first | exact alOk_nil _ | exact alOk_f rfl), _, _, withinY_at _ _ _ nn0 nn1 o0 o1 h2, ?_⟩) | ((with_reducible refine call_go rsizeS rsize_ok ?_); refine ⟨(by first | exact alOk_nil _ | exact alOk_f rfl), _, _, rsize_at _ o0 o1, ?_⟩) | (with_reducible first | refine idx_map (by omega) ?_ | refine W_reg lv52BdJ ?_ | refine W_drw lv52BdJ (by kernel_rfl) ?_ | refine W_skip ?_ | refine W_exit ?_ | refine W_ret ?_ | refine end_at0 ?_) | (with_reducible refine And.intro (fun h => ?_) (fun h => ?_)) | (with_reducible refine And.intro (by omega) ?_)); (try simp only [go_sem, seval, reduceCtorEq, hki, hb0, h1a, h1b, h4, lv52BdJ, Try.ntmps52, Try.results52, CheckS]))
        | fail)
    have h1B := oneB_ok (n := n) h1 h2 h4
    cases i with
    | zero =>
      rw [prv, bgo_fst h1B] at hgo
      have hz : ((0 : Nat) : Int) = 0 := rfl
      have hki0 : (0 : Int) < l.length := by omega
      repeat' (first
        | (with_reducible first | refine W_seq ?_ | refine W_condT rfl ?_ | refine W_condF rfl ?_ | refine W_tf rfl (fun h => ?_) (fun h => ?_) | refine W_block ?_ | refine endQ_ret ?_ | refine endQ_normal ?_)
        | ((with_reducible first | refine hK _ ?_ | refine hK _ _ ?_); clear hK K)
        | ((first | (with_reducible first | refine ops_cons (fun K hK => ?_) | refine opsd_cons (fun K hK => ?_) | refine ops_nil ?_ | refine fit_i64 (by omega) ?_ | refine fit_any ?_ | refine rem_nn (by omega) ?_ | refine rem_any ?_) | ((with_reducible refine opsd_nil ?_); refine And.intro (by kernel_rfl) ?_) | with_reducible refine callV_snap ?_ | ((with_reducible refine call_go withinYS withinY_ok ?_); refine ⟨(by first | exact alOk_nil _ | exact alOk_f rfl), _, _, withinY_at _ _ _ nn0 nn1 o0 o1 h2, ?_⟩) | ((with_reducible refine call_go rsizeS rsize_ok ?_); refine ⟨(by first | exact alOk_nil _ | exact alOk_f rfl), _, _, rsize_at _ o0 o1, ?_⟩) | (with_reducible first | refine idx_map (by omega) ?_ | refine W_reg lv52BdJ ?_ | refine W_drw lv52BdJ (by kernel_rfl) ?_ | refine W_skip ?_ | refine W_exit ?_ | refine W_ret ?_ | refine end_at0 ?_) | (with_reducible refine And.intro (fun h => ?_) (fun h => ?_)) | (with_reducible refine And.intro (by omega) ?_)); (try simp only [go_sem, seval, reduceCtorEq, hki0, hb0, h1a, h1b, h4, hz, lv52BdJ, Try.ntmps52, Try.results52, CheckS]))
        | fail)
      refine W_rounds 1 ?_
      repeat' (first
        | (with_reducible first | refine W_seq ?_ | refine W_condT rfl ?_ | refine W_condF rfl ?_ | refine W_tf rfl (fun h => ?_) (fun h => ?_) | refine W_block ?_ | refine endQ_ret ?_ | refine endQ_normal ?_)
        | ((with_reducible first | refine hK _ ?_ | refine hK _ _ ?_); clear hK K)
        | (with_reducible refine Wn_succ ?_)
        | ((first | (with_reducible first | refine ops_cons (fun K hK => ?_) | refine opsd_cons (fun K hK => ?_) | refine ops_nil ?_ | refine fit_i64 (by omega) ?_ | refine fit_any ?_ | refine rem_nn (by omega) ?_ | refine rem_any ?_) | ((with_reducible refine opsd_nil ?_); refine And.intro (by kernel_rfl) ?_) | with_reducible refine callV_snap ?_ | (with_reducible first | refine idx_map (by omega) ?_ | refine W_reg lv52BdJ ?_ | refine W_drw lv52BdJ (by kernel_rfl) ?_ | refine W_skip ?_ | refine W_exit ?_ | refine W_ret ?_ | refine end_at0 ?_) | (with_reducible refine And.intro (fun h => ?_) (fun h => ?_)) | (with_reducible refine And.intro (by omega) ?_)); (try simp only [go_sem, seval, reduceCtorEq, hki0, hb0, h1a, h1b, h4, hz, lv52BdJ, Try.ntmps52, Try.results52, CheckS]))
        | fail)
      refine ⟨1, [0], ⟨by omega, Pre.fst hlt h1B, by rw [prv, List.getElem?_eq_getElem hlt]; exact hgo⟩, by omega, ?_⟩
      simp [go_sem]
    | succ i =>
      have hi' : i < l.length := by omega
      have hp0 := hpre.one i hi' (by omega)
      obtain ⟨⟨q1, q2⟩, ⟨q3, q4⟩, q5⟩ := oneB_zero hp0
      have hpq := pow64 (l[i]).2 q1 q2
      have hgt : (0 : Int) < ((i + 1 : Nat) : Int) := by omega
      have hsub : (((i + 1 : Nat) : Int) - 1) = (i : Int) := by omega
      have hki2 : (i : Int) < l.length := by omega
      have hb1 : encBk l[i] = [.int .i64 (l[i]).1, .int .i64 (l[i]).2] := rfl
      rw [prv, List.getElem?_eq_getElem hi'] at hgo
      by_cases h5 : (l[i + 1]).1 < (l[i]).1 + 2 ^ (l[i]).2.toNat
      · rw [bgo_two h1B (by rw [twoB_ord h5]; decide), twoB_ord h5] at hgo
        subst hgo
        repeat' (first
          | (with_reducible first | refine W_seq ?_ | refine W_condT rfl ?_ | refine W_condF rfl ?_ | refine W_tf rfl (fun h => ?_) (fun h => ?_) | refine W_block ?_ | refine endQ_ret ?_ | refine endQ_normal ?_)
          | ((with_reducible first | refine hK _ ?_ | refine hK _ _ ?_); clear hK K)
          | ((first | (with_reducible first | refine ops_cons (fun K hK => ?_) | refine opsd_cons (fun K hK => ?_) | refine ops_nil ?_ | refine fit_i64 (by omega) ?_ | refine fit_any ?_ | refine rem_nn (by omega) ?_ | refine rem_any ?_) | ((with_reducible refine opsd_nil ?_); refine And.intro (by kernel_rfl) ?_) | with_reducible refine callV_snap ?_ | ((with_reducible refine call_go withinYS withinY_ok ?_); refine ⟨(by first | exact alOk_nil _ | exact alOk_f rfl), _, _, withinY_at _ _ _ nn0 nn1 o0 o1 h2, ?_⟩) | ((with_reducible refine call_go rsizeS rsize_ok ?_); refine ⟨(by first | exact alOk_nil _ | exact alOk_f rfl), _, _, rsize_at _ o0 o1, ?_⟩) | ((with_reducible refine call_go rsizeS rsize_ok ?_); refine ⟨(by first | exact alOk_nil _ | exact alOk_f rfl), _, _, rsize_at _ q1 q2, ?_⟩) | (with_reducible first | refine idx_map (by omega) ?_ | refine W_reg lv52BdJ ?_ | refine W_drw lv52BdJ (by kernel_rfl) ?_ | refine W_skip ?_ | refine W_exit ?_ | refine W_ret ?_ | refine end_at0 ?_) | (with_reducible refine And.intro (fun h => ?_) (fun h => ?_)) | (with_reducible refine And.intro (by omega) ?_)); (try simp only [go_sem, seval, reduceCtorEq, hki, hb0, hb1, h1a, h1b, h4, hgt, hsub, hki2, h5, lv52BdJ, Try.ntmps52, Try.results52, CheckS]))
          | fail)
      repeat' (first
        | (with_reducible first | refine W_seq ?_ | refine W_condT rfl ?_ | refine W_condF rfl ?_ | refine W_tf rfl (fun h => ?_) (fun h => ?_) | refine W_block ?_ | refine endQ_ret ?_ | refine endQ_normal ?_)
        | ((with_reducible first | refine hK _ ?_ | refine hK _ _ ?_); clear hK K)
        | ((first | (with_reducible first | refine ops_cons (fun K hK => ?_) | refine opsd_cons (fun K hK => ?_) | refine ops_nil ?_ | refine fit_i64 (by omega) ?_ | refine fit_any ?_ | refine rem_nn (by omega) ?_ | refine rem_any ?_) | ((with_reducible refine opsd_nil ?_); refine And.intro (by kernel_rfl) ?_) | with_reducible refine callV_snap ?_ | ((with_reducible refine call_go withinYS withinY_ok ?_); refine ⟨(by first | exact alOk_nil _ | exact alOk_f rfl), _, _, withinY_at _ _ _ nn0 nn1 o0 o1 h2, ?_⟩) | ((with_reducible refine call_go rsizeS rsize_ok ?_); refine ⟨(by first | exact alOk_nil _ | exact alOk_f rfl), _, _, rsize_at _ o0 o1, ?_⟩) | ((with_reducible refine call_go rsizeS rsize_ok ?_); refine ⟨(by first | exact alOk_nil _ | exact alOk_f rfl), _, _, rsize_at _ q1 q2, ?_⟩) | (with_reducible first | refine idx_map (by omega) ?_ | refine W_reg lv52BdJ ?_ | refine W_drw lv52BdJ (by kernel_rfl) ?_ | refine W_skip ?_ | refine W_exit ?_ | refine W_ret ?_ | refine end_at0 ?_) | (with_reducible refine And.intro (fun h => ?_) (fun h => ?_)) | (with_reducible refine And.intro (by omega) ?_)); (try simp only [go_sem, seval, reduceCtorEq, hki, hb0, hb1, h1a, h1b, h4, hgt, hsub, hki2, h5, lv52BdJ, Try.ntmps52, Try.results52, CheckS]))
        | fail)
      refine W_loop (fun k : Nat => ⟨[(1, .ptr 0 0), (4, iv (i + 1 : Nat)), (5, .ptr 1 0), (6, iv k)], [some (.box 59 [iv n, dK l]), some (.box 87 [iv (l[i + 1]).1, iv (l[i + 1]).2])]⟩) (fun k => k ≤ i + 1 ∧ (k = i + 1 → twoB l[i] l[i + 1] = 0)) (fun k => i + 1 - k) 0 ⟨Nat.zero_le _, fun h => by omega⟩ [0, 1] ?_ ?_
      · simp [go_sem]
      rintro k ⟨hk, htwo⟩
      by_cases hki1 : k < i + 1
      · have hkk : (k : Int) < ((i + 1 : Nat) : Int) := by omega
        have hkl : k < l.length := by omega
        have hkl' : (k : Int) < l.length := by omega
        have hbk : encBk l[k] = [.int .i64 (l[k]).1, .int .i64 (l[k]).2] := rfl
        obtain ⟨⟨k1, k2⟩, ⟨k3, k4⟩, k5⟩ := oneB_zero (hpre.one k hkl (by omega))
        by_cases c1 : (l[i + 1]).2 < 6
        case neg =>
          have h7 := twoB_ok h5 (fun h => c1 h.1)
          repeat' (first
            | (with_reducible first | refine W_seq ?_ | refine W_condT rfl ?_ | refine W_condF rfl ?_ | refine W_tf rfl (fun h => ?_) (fun h => ?_) | refine W_block ?_ | refine endQ_ret ?_ | refine endQ_normal ?_)
            | ((with_reducible first | refine hK _ ?_ | refine hK _ _ ?_); clear hK K)
            | ((first | (with_reducible first | refine ops_cons (fun K hK => ?_) | refine opsd_cons (fun K hK => ?_) | refine ops_nil ?_ | refine fit_i64 (by omega) ?_ | refine fit_any ?_ | refine rem_nn (by omega) ?_ | refine rem_any ?_) | ((with_reducible refine opsd_nil ?_); refine And.intro (by kernel_rfl) ?_) | with_reducible refine callV_snap ?_ | (with_reducible first | refine idx_map (by omega) ?_ | refine W_reg lv52BdJ ?_ | refine W_drw lv52BdJ (by kernel_rfl) ?_ | refine W_skip ?_ | refine W_exit ?_ | refine W_ret ?_ | refine end_at0 ?_) | (with_reducible refine And.intro (fun h => ?_) (fun h => ?_)) | (with_reducible refine And.intro (by omega) ?_)); (try simp only [go_sem, seval, reduceCtorEq, hkk, hkl', hbk, c1, lv52BdJ, Try.ntmps52, Try.results52, CheckS]))
            | fail)
          refine ⟨k + 1, [0, 1], ⟨by omega, fun _ => h7⟩, by omega, ?_⟩
          simp [go_sem]
        by_cases c2 : (l[k]).2 = (l[i + 1]).2
        case neg =>
          have h7 : k = i → twoB l[i] l[i + 1] = 0 := fun e => twoB_ok h5 (fun h => c2 (by subst e; exact h.2.1))
          repeat' (first
            | (with_reducible first | refine W_seq ?_ | refine W_condT rfl ?_ | refine W_condF rfl ?_ | refine W_tf rfl (fun h => ?_) (fun h => ?_) | refine W_block ?_ | refine endQ_ret ?_ | refine endQ_normal ?_)
            | ((with_reducible first | refine hK _ ?_ | refine hK _ _ ?_); clear hK K)
            | ((first | (with_reducible first | refine ops_cons (fun K hK => ?_) | refine opsd_cons (fun K hK => ?_) | refine ops_nil ?_ | refine fit_i64 (by omega) ?_ | refine fit_any ?_ | refine rem_nn (by omega) ?_ | refine rem_any ?_) | ((with_reducible refine opsd_nil ?_); refine And.intro (by kernel_rfl) ?_) | with_reducible refine callV_snap ?_ | (with_reducible first | refine idx_map (by omega) ?_ | refine W_reg lv52BdJ ?_ | refine W_drw lv52BdJ (by kernel_rfl) ?_ | refine W_skip ?_ | refine W_exit ?_ | refine W_ret ?_ | refine end_at0 ?_) | (with_reducible refine And.intro (fun h => ?_) (fun h => ?_)) | (with_reducible refine And.intro (by omega) ?_)); (try simp only [go_sem, seval, reduceCtorEq, hkk, hkl', hbk, c1, c2, lv52BdJ, Try.ntmps52, Try.results52, CheckS]))
            | fail)
          refine ⟨k + 1, [0, 1], ⟨by omega, fun _ => h7 (by omega)⟩, by omega, ?_⟩
          simp [go_sem]
        by_cases c3 : (l[k]).1 = (l[i + 1]).1 - 2 ^ (l[i + 1]).2.toNat
        case neg =>
          have h7 : k = i → twoB l[i] l[i + 1] = 0 := fun e => twoB_ok h5 (fun h => c3 (by subst e; have := h.2.2.1; omega))
          have c2' := eq_true c2
          repeat' (first
            | (with_reducible first | refine W_seq ?_ | refine W_condT rfl ?_ | refine W_condF rfl ?_ | refine W_tf rfl (fun h => ?_) (fun h => ?_) | refine W_block ?_ | refine endQ_ret ?_ | refine endQ_normal ?_)
            | ((with_reducible first | refine hK _ ?_ | refine hK _ _ ?_); clear hK K)
            | ((first | (with_reducible first | refine ops_cons (fun K hK => ?_) | refine opsd_cons (fun K hK => ?_) | refine ops_nil ?_ | refine fit_i64 (by omega) ?_ | refine fit_any ?_ | refine rem_nn (by omega) ?_ | refine rem_any ?_) | ((with_reducible refine opsd_nil ?_); refine And.intro (by kernel_rfl) ?_) | with_reducible refine callV_snap ?_ | ((with_reducible refine call_go rsizeS rsize_ok ?_); refine ⟨(by first | exact alOk_nil _ | exact alOk_f rfl), _, _, rsize_at _ o0 o1, ?_⟩) | (with_reducible first | refine idx_map (by omega) ?_ | refine W_reg lv52BdJ ?_ | refine W_drw lv52BdJ (by kernel_rfl) ?_ | refine W_skip ?_ | refine W_exit ?_ | refine W_ret ?_ | refine end_at0 ?_) | (with_reducible refine And.intro (fun h => ?_) (fun h => ?_)) | (with_reducible refine And.intro (by omega) ?_)); (try simp only [go_sem, seval, reduceCtorEq, hkk, hkl', hbk, c1, c2', c3, lv52BdJ, Try.ntmps52, Try.results52, CheckS]))
            | fail)
          refine ⟨k + 1, [0, 1], ⟨by omega, fun _ => h7 (by omega)⟩, by omega, ?_⟩
          simp [go_sem]
        have hkeq : k = i := by
          rcases Nat.lt_or_ge k i with h | h
          · have := hpre.asc k i hi' h (by omega)
            rw [c2, c3] at this
            omega
          · omega
        subst hkeq
        have c2' := eq_true c2
        have c3' := eq_true c3
        by_cases c4 : (l[k]).1 % (2 * 2 ^ (l[k + 1]).2.toNat) = 0
        · have h9 : (l[k + 1]).2 < 6 ∧ (l[k]).2 = (l[k + 1]).2 ∧ (l[k]).1 + 2 ^ (l[k + 1]).2.toNat = (l[k + 1]).1 ∧ (l[k]).1 % (2 * 2 ^ (l[k + 1]).2.toNat) = 0 := ⟨c1, c2, by omega, c4⟩
          rw [bgo_two h1B (by rw [twoB_ex h5 h9]; decide), twoB_ex h5 h9] at hgo
          subst hgo
          repeat' (first
            | (with_reducible first | refine W_seq ?_ | refine W_condT rfl ?_ | refine W_condF rfl ?_ | refine W_tf rfl (fun h => ?_) (fun h => ?_) | refine W_block ?_ | refine endQ_ret ?_ | refine endQ_normal ?_)
            | ((with_reducible first | refine hK _ ?_ | refine hK _ _ ?_); clear hK K)
            | ((first | (with_reducible first | refine ops_cons (fun K hK => ?_) | refine opsd_cons (fun K hK => ?_) | refine ops_nil ?_ | refine fit_i64 (by omega) ?_ | refine fit_any ?_ | refine rem_nn (by omega) ?_ | refine rem_any ?_) | ((with_reducible refine opsd_nil ?_); refine And.intro (by kernel_rfl) ?_) | with_reducible refine callV_snap ?_ | ((with_reducible refine call_go rsizeS rsize_ok ?_); refine ⟨(by first | exact alOk_nil _ | exact alOk_f rfl), _, _, rsize_at _ o0 o1, ?_⟩) | (with_reducible first | refine idx_map (by omega) ?_ | refine W_reg lv52BdJ ?_ | refine W_drw lv52BdJ (by kernel_rfl) ?_ | refine W_skip ?_ | refine W_exit ?_ | refine W_ret ?_ | refine end_at0 ?_) | (with_reducible refine And.intro (fun h => ?_) (fun h => ?_)) | (with_reducible refine And.intro (by omega) ?_)); (try simp only [go_sem, seval, reduceCtorEq, hkk, hkl', hbk, c1, c2', c3', c4, lv52BdJ, Try.ntmps52, Try.results52, CheckS]))
            | fail)
        · have h7 := twoB_ok h5 (fun h => c4 h.2.2.2)
          repeat' (first
            | (with_reducible first | refine W_seq ?_ | refine W_condT rfl ?_ | refine W_condF rfl ?_ | refine W_tf rfl (fun h => ?_) (fun h => ?_) | refine W_block ?_ | refine endQ_ret ?_ | refine endQ_normal ?_)
            | ((with_reducible first | refine hK _ ?_ | refine hK _ _ ?_); clear hK K)
            | ((first | (with_reducible first | refine ops_cons (fun K hK => ?_) | refine opsd_cons (fun K hK => ?_) | refine ops_nil ?_ | refine fit_i64 (by omega) ?_ | refine fit_any ?_ | refine rem_nn (by omega) ?_ | refine rem_any ?_) | ((with_reducible refine opsd_nil ?_); refine And.intro (by kernel_rfl) ?_) | with_reducible refine callV_snap ?_ | ((with_reducible refine call_go rsizeS rsize_ok ?_); refine ⟨(by first | exact alOk_nil _ | exact alOk_f rfl), _, _, rsize_at _ o0 o1, ?_⟩) | (with_reducible first | refine idx_map (by omega) ?_ | refine W_reg lv52BdJ ?_ | refine W_drw lv52BdJ (by kernel_rfl) ?_ | refine W_skip ?_ | refine W_exit ?_ | refine W_ret ?_ | refine end_at0 ?_) | (with_reducible refine And.intro (fun h => ?_) (fun h => ?_)) | (with_reducible refine And.intro (by omega) ?_)); (try simp only [go_sem, seval, reduceCtorEq, hkk, hkl', hbk, c1, c2', c3', c4, lv52BdJ, Try.ntmps52, Try.results52, CheckS]))
            | fail)
          refine ⟨k + 1, [0, 1], ⟨by omega, fun _ => h7⟩, by omega, ?_⟩
          simp [go_sem]
      · have hkk : ¬ (k : Int) < ((i + 1 : Nat) : Int) := by omega
        have h7 := htwo (by omega)
        rw [bgo_go h1B h7] at hgo
        repeat' (first
          | (with_reducible first | refine W_seq ?_ | refine W_condT rfl ?_ | refine W_condF rfl ?_ | refine W_tf rfl (fun h => ?_) (fun h => ?_) | refine W_block ?_ | refine endQ_ret ?_ | refine endQ_normal ?_)
          | ((with_reducible first | refine hK _ ?_ | refine hK _ _ ?_); clear hK K)
          | ((first | (with_reducible first | refine ops_cons (fun K hK => ?_) | refine opsd_cons (fun K hK => ?_) | refine ops_nil ?_ | refine fit_i64 (by omega) ?_ | refine fit_any ?_ | refine rem_nn (by omega) ?_ | refine rem_any ?_) | ((with_reducible refine opsd_nil ?_); refine And.intro (by kernel_rfl) ?_) | with_reducible refine callV_snap ?_ | (with_reducible first | refine idx_map (by omega) ?_ | refine W_reg lv52BdJ ?_ | refine W_drw lv52BdJ (by kernel_rfl) ?_ | refine W_skip ?_ | refine W_exit ?_ | refine W_ret ?_ | refine end_at0 ?_) | (with_reducible refine And.intro (fun h => ?_) (fun h => ?_)) | (with_reducible refine And.intro (by omega) ?_)); (try simp only [go_sem, seval, reduceCtorEq, hkk, lv52BdJ, Try.ntmps52, Try.results52, CheckS]))
          | fail)
        refine ⟨i + 2, [0], ⟨by omega, hpre.step hlt h1B h7, by rw [prv, List.getElem?_eq_getElem hlt]; exact hgo⟩, by omega, ?_⟩
        simp [go_sem]
        omega
  · have hki : ¬ (i : Int) < l.length := by omega
    have hn : bgo n (prv l i) i (l.drop i) = (0, 0) := by rw [List.drop_eq_nil_of_le (by omega)]; cases prv l i <;> rfl
    rw [hn] at hgo
    subst hgo
    repeat' (first
      | (with_reducible first | refine W_seq ?_ | refine W_condT rfl ?_ | refine W_condF rfl ?_ | refine W_tf rfl (fun h => ?_) (fun h => ?_) | refine W_block ?_ | refine endQ_ret ?_ | refine endQ_normal ?_)
      | ((with_reducible first | refine hK _ ?_ | refine hK _ _ ?_); clear hK K)
      | ((first | (with_reducible first | refine ops_cons (fun K hK => ?_) | refine opsd_cons (fun K hK => ?_) | refine ops_nil ?_ | refine fit_i64 (by omega) ?_ | refine fit_any ?_ | refine rem_nn (by omega) ?_ | refine rem_any ?_) | ((with_reducible refine opsd_nil ?_); refine And.intro (by kernel_rfl) ?_) | with_reducible refine callV_snap ?_ | (with_reducible first | refine idx_map (by omega) ?_ | refine W_reg lv52BdJ ?_ | refine W_drw lv52BdJ (by kernel_rfl) ?_ | refine W_skip ?_ | refine W_exit ?_ | refine W_ret ?_ | refine end_at0 ?_) | (with_reducible refine And.intro (fun h => ?_) (fun h => ?_)) | (with_reducible refine And.intro (by omega) ?_)); (try simp only [go_sem, seval, reduceCtorEq, hki, lv52BdJ, Try.ntmps52, Try.results52, CheckS]))
      | fail)
end Go.Proofs.Ytacfipmigkbncaa
