/- The specification's shares, by the engine. -/
import Derived.Test.YtpkiabhlmjnemaaShrJ
namespace Go.Proofs.Ytpkiabhlmjnemaa
open Go.RowKit
set_option maxRecDepth 100000
set_option linter.unusedSimpArgs false
set_option linter.unusedVariables false

def sharesS : Spec := { rel := fun args ins res outs => ∃ (l : List O) (n : Int), l.length ≤ 1000000 ∧ Vl l ∧ 0 ≤ n ∧ args = [dO l, iv n] ∧ ins = [] ∧ res = .row 0 1 0 3 ∧ outs = [.rows 3 1 ((shrs l n).map encDI)] }
theorem shares_at (l : List O) (n : Int) (h : l.length ≤ 1000000) (hv : Vl l) (hn : 0 ≤ n) : sharesS.rel [dO l, iv n] [] (.row 0 1 0 3) [.rows 3 1 ((shrs l n).map encDI)] := ⟨l, n, h, hv, hn, rfl, rfl, rfl, rfl⟩
set_option maxHeartbeats 8000000 in
theorem shares_ok : Ok Try.prog 37 sharesS := by
  refine fn_ok sharesS Try.func37 rfl rfl ?_
  rintro args ins res outs ⟨l, n, hl, hv, h2, rfl, rfl, rfl, rfl⟩
  refine ⟨by simp [Try.ntmps37], fun w0 V Bo mu0 => ?_⟩
  have hc3 : ((3 : Nat) : Int) = 3 := rfl
  have hnn : (if (l.length : Int) < n then (l.length : Int) else n) = nn l n := rfl
  by_cases h0 : (l.length : Int) = 0
  · have e : shrs l n = [0, 0, 0] := by unfold shrs; rw [if_pos (by omega)]
    have hn0 : nn l n = 0 := by unfold nn; split <;> omega
    have hlt : ¬ (0 : Int) < l.length := by omega
    rw [e]
    repeat' (first
      | (with_reducible first | refine W_seq ?_ | refine W_condT rfl ?_ | refine W_condF rfl ?_ | refine W_tf rfl (fun h => ?_) (fun h => ?_) | refine W_block ?_ | refine W_scope ?_ | refine endQ_ret ?_ | refine endQ_normal ?_)
      | ((with_reducible first | refine hK _ ?_ | refine hK _ _ ?_); clear hK K)
      | ((first | (with_reducible first | refine ops_cons (fun K hK => ?_) | refine opsd_cons (fun K hK => ?_) | refine ops_nil ?_ | refine fit_i64 (by omega) ?_ | refine fit_u8 (by omega) ?_ | refine fit_u64 (by omega) ?_ | refine fit_u32 (by omega) ?_ | refine fit_any ?_ | refine quo_nn (by omega) ?_ | refine rem_nn (by omega) ?_ | refine quo_any ?_ | refine rem_any ?_ | refine sh_in (by simp only [IntKind.bits]; omega) ?_) | ((with_reducible refine opsd_nil ?_); refine And.intro (by kernel_rfl) ?_) | with_reducible refine callV_snap ?_ | ((with_reducible refine call_go countsS counts_ok ?_); refine ⟨(by first | exact alOk_nil _ | exact alOk_f rfl), _, _, counts_at l hl hv, ?_⟩) | (with_reducible first | refine slice_old ?_ | refine app_grow ?_ | refine idx_map (by omega) ?_ | refine W_reg [(0, [0, 1]), (1, [0, 1]), (2, [0, 1, 5, 6, 7]), (3, [0, 1, 5, 6, 7, 8]), (4, [0, 1, 5, 6, 7, 8, 9]), (5, [0, 1, 5, 6, 7, 8, 9, 27]), (6, [0, 1, 5, 6, 7, 8, 9]), (7, [0, 1, 5, 6, 7, 8, 9]), (8, [0, 1, 5, 6, 7, 8, 9]), (9, [6, 7, 8, 61]), (10, [6, 7, 8]), (11, [6, 7, 8, 10]), (12, [6, 7, 8, 10, 11]), (13, [6, 7, 8, 10, 11, 65]), (14, [6, 7, 8, 10, 11]), (15, [6, 7, 8, 10, 11, 76]), (16, [6, 7, 8, 10, 11]), (17, [6, 7, 8]), (18, [4])] ?_ | refine W_drw [(0, [0, 1]), (1, [0, 1]), (2, [0, 1, 5, 6, 7]), (3, [0, 1, 5, 6, 7, 8]), (4, [0, 1, 5, 6, 7, 8, 9]), (5, [0, 1, 5, 6, 7, 8, 9, 27]), (6, [0, 1, 5, 6, 7, 8, 9]), (7, [0, 1, 5, 6, 7, 8, 9]), (8, [0, 1, 5, 6, 7, 8, 9]), (9, [6, 7, 8, 61]), (10, [6, 7, 8]), (11, [6, 7, 8, 10]), (12, [6, 7, 8, 10, 11]), (13, [6, 7, 8, 10, 11, 65]), (14, [6, 7, 8, 10, 11]), (15, [6, 7, 8, 10, 11, 76]), (16, [6, 7, 8, 10, 11]), (17, [6, 7, 8]), (18, [4])] (by kernel_rfl) ?_ | refine W_label ?_ | refine W_skip ?_ | refine W_exit ?_ | refine end_at0 ?_) | (with_reducible refine And.intro (fun h => ?_) (fun h => ?_)) | (with_reducible refine And.intro (by omega) ?_)); (try simp only [go_sem, Nat.reduceAdd, Nat.reduceSub, Nat.reduceMul, Nat.reduceDiv, Nat.reduceMod, Nat.reducePow, Nat.reduceLT, Nat.reduceEqDiff, Nat.reduceBEq, Nat.reduceLeDiff, reduceIte, reduceCtorEq, Int.reduceLT, Int.reduceLE, Int.reduceEq, Int.reduceNe, Int.reduceNeg, Int.reduceAdd, Int.reduceSub, Int.reduceMul, Int.reduceToNat, Int.reducePow, Int.reduceDiv, Int.reduceMod, Nat.reduceSucc, hnn, hn0, cnts, encDI, Try.ntmps37, Try.results37, sharesS]))
      | fail)
    refine W_rounds 1 ?_
    repeat' (first
      | (with_reducible first | refine W_seq ?_ | refine W_condT rfl ?_ | refine W_condF rfl ?_ | refine W_tf rfl (fun h => ?_) (fun h => ?_) | refine W_block ?_ | refine W_scope ?_ | refine endQ_ret ?_ | refine endQ_normal ?_)
      | ((with_reducible first | refine hK _ ?_ | refine hK _ _ ?_); clear hK K)
      | (with_reducible refine Wn_succ ?_)
      | ((first | (with_reducible first | refine ops_cons (fun K hK => ?_) | refine opsd_cons (fun K hK => ?_) | refine ops_nil ?_ | refine fit_i64 (by omega) ?_ | refine fit_u8 (by omega) ?_ | refine fit_u64 (by omega) ?_ | refine fit_u32 (by omega) ?_ | refine fit_any ?_ | refine quo_nn (by omega) ?_ | refine rem_nn (by omega) ?_ | refine quo_any ?_ | refine rem_any ?_ | refine sh_in (by simp only [IntKind.bits]; omega) ?_) | ((with_reducible refine opsd_nil ?_); refine And.intro (by kernel_rfl) ?_) | with_reducible refine callV_snap ?_ | (with_reducible first | refine slice_old ?_ | refine app_grow ?_ | refine idx_map (by omega) ?_ | refine W_reg [(0, [0, 1]), (1, [0, 1]), (2, [0, 1, 5, 6, 7]), (3, [0, 1, 5, 6, 7, 8]), (4, [0, 1, 5, 6, 7, 8, 9]), (5, [0, 1, 5, 6, 7, 8, 9, 27]), (6, [0, 1, 5, 6, 7, 8, 9]), (7, [0, 1, 5, 6, 7, 8, 9]), (8, [0, 1, 5, 6, 7, 8, 9]), (9, [6, 7, 8, 61]), (10, [6, 7, 8]), (11, [6, 7, 8, 10]), (12, [6, 7, 8, 10, 11]), (13, [6, 7, 8, 10, 11, 65]), (14, [6, 7, 8, 10, 11]), (15, [6, 7, 8, 10, 11, 76]), (16, [6, 7, 8, 10, 11]), (17, [6, 7, 8]), (18, [4])] ?_ | refine W_drw [(0, [0, 1]), (1, [0, 1]), (2, [0, 1, 5, 6, 7]), (3, [0, 1, 5, 6, 7, 8]), (4, [0, 1, 5, 6, 7, 8, 9]), (5, [0, 1, 5, 6, 7, 8, 9, 27]), (6, [0, 1, 5, 6, 7, 8, 9]), (7, [0, 1, 5, 6, 7, 8, 9]), (8, [0, 1, 5, 6, 7, 8, 9]), (9, [6, 7, 8, 61]), (10, [6, 7, 8]), (11, [6, 7, 8, 10]), (12, [6, 7, 8, 10, 11]), (13, [6, 7, 8, 10, 11, 65]), (14, [6, 7, 8, 10, 11]), (15, [6, 7, 8, 10, 11, 76]), (16, [6, 7, 8, 10, 11]), (17, [6, 7, 8]), (18, [4])] (by kernel_rfl) ?_ | refine W_label ?_ | refine W_skip ?_ | refine W_exit ?_ | refine end_at0 ?_) | (with_reducible refine And.intro (fun h => ?_) (fun h => ?_)) | (with_reducible refine And.intro (by omega) ?_)); (try simp only [go_sem, Nat.reduceAdd, Nat.reduceSub, Nat.reduceMul, Nat.reduceDiv, Nat.reduceMod, Nat.reducePow, Nat.reduceLT, Nat.reduceEqDiff, Nat.reduceBEq, Nat.reduceLeDiff, reduceIte, reduceCtorEq, Int.reduceLT, Int.reduceLE, Int.reduceEq, Int.reduceNe, Int.reduceNeg, Int.reduceAdd, Int.reduceSub, Int.reduceMul, Int.reduceToNat, Int.reducePow, Int.reduceDiv, Int.reduceMod, Nat.reduceSucc, hlt, hc3, cnts, encDI, Try.ntmps37, Try.results37, sharesS]))
      | fail)
    refine W_rounds 1 ?_
    repeat' (first
      | (with_reducible first | refine W_seq ?_ | refine W_condT rfl ?_ | refine W_condF rfl ?_ | refine W_tf rfl (fun h => ?_) (fun h => ?_) | refine W_block ?_ | refine W_scope ?_ | refine endQ_ret ?_ | refine endQ_normal ?_)
      | ((with_reducible first | refine hK _ ?_ | refine hK _ _ ?_); clear hK K)
      | (with_reducible refine Wn_succ ?_)
      | ((first | (with_reducible first | refine ops_cons (fun K hK => ?_) | refine opsd_cons (fun K hK => ?_) | refine ops_nil ?_ | refine fit_i64 (by omega) ?_ | refine fit_u8 (by omega) ?_ | refine fit_u64 (by omega) ?_ | refine fit_u32 (by omega) ?_ | refine fit_any ?_ | refine quo_nn (by omega) ?_ | refine rem_nn (by omega) ?_ | refine quo_any ?_ | refine rem_any ?_ | refine sh_in (by simp only [IntKind.bits]; omega) ?_) | ((with_reducible refine opsd_nil ?_); refine And.intro (by kernel_rfl) ?_) | with_reducible refine callV_snap ?_ | (with_reducible first | refine slice_old ?_ | refine app_grow ?_ | refine idx_map (by omega) ?_ | refine W_reg [(0, [0, 1]), (1, [0, 1]), (2, [0, 1, 5, 6, 7]), (3, [0, 1, 5, 6, 7, 8]), (4, [0, 1, 5, 6, 7, 8, 9]), (5, [0, 1, 5, 6, 7, 8, 9, 27]), (6, [0, 1, 5, 6, 7, 8, 9]), (7, [0, 1, 5, 6, 7, 8, 9]), (8, [0, 1, 5, 6, 7, 8, 9]), (9, [6, 7, 8, 61]), (10, [6, 7, 8]), (11, [6, 7, 8, 10]), (12, [6, 7, 8, 10, 11]), (13, [6, 7, 8, 10, 11, 65]), (14, [6, 7, 8, 10, 11]), (15, [6, 7, 8, 10, 11, 76]), (16, [6, 7, 8, 10, 11]), (17, [6, 7, 8]), (18, [4])] ?_ | refine W_drw [(0, [0, 1]), (1, [0, 1]), (2, [0, 1, 5, 6, 7]), (3, [0, 1, 5, 6, 7, 8]), (4, [0, 1, 5, 6, 7, 8, 9]), (5, [0, 1, 5, 6, 7, 8, 9, 27]), (6, [0, 1, 5, 6, 7, 8, 9]), (7, [0, 1, 5, 6, 7, 8, 9]), (8, [0, 1, 5, 6, 7, 8, 9]), (9, [6, 7, 8, 61]), (10, [6, 7, 8]), (11, [6, 7, 8, 10]), (12, [6, 7, 8, 10, 11]), (13, [6, 7, 8, 10, 11, 65]), (14, [6, 7, 8, 10, 11]), (15, [6, 7, 8, 10, 11, 76]), (16, [6, 7, 8, 10, 11]), (17, [6, 7, 8]), (18, [4])] (by kernel_rfl) ?_ | refine W_label ?_ | refine W_skip ?_ | refine W_exit ?_ | refine end_at0 ?_) | (with_reducible refine And.intro (fun h => ?_) (fun h => ?_)) | (with_reducible refine And.intro (by omega) ?_)); (try simp only [go_sem, Nat.reduceAdd, Nat.reduceSub, Nat.reduceMul, Nat.reduceDiv, Nat.reduceMod, Nat.reducePow, Nat.reduceLT, Nat.reduceEqDiff, Nat.reduceBEq, Nat.reduceLeDiff, reduceIte, reduceCtorEq, Int.reduceLT, Int.reduceLE, Int.reduceEq, Int.reduceNe, Int.reduceNeg, Int.reduceAdd, Int.reduceSub, Int.reduceMul, Int.reduceToNat, Int.reducePow, Int.reduceDiv, Int.reduceMod, Nat.reduceSucc, hlt, hc3, cnts, encDI, Try.ntmps37, Try.results37, sharesS]))
      | fail)
    refine W_ret (endQ_ret (end_at [1] ?_))
    simp [go_sem, Try.results37, sharesS, encDI]
  have hs := shr_of hv (by omega) (n := n) (by omega)
  have e : shrs l n = shr3 (sq l n 1) (sq l n 2) (sq l n 3) (sr l n 1) (sr l n 2) (sr l n 3) (lf l n) := by unfold shrs; rw [if_neg (by omega)]
  rw [e]
  obtain ⟨n0, n1, m0, m1, q0, q1, r0, r1, he0, hleft, hsum⟩ := hs
  clear he0 hsum
  have hlt : (0 : Int) < l.length := by omega
  have m01 := m0 1; have m02 := m0 2; have m03 := m0 3
  have m11 := m1 1; have m12 := m1 2; have m13 := m1 3
  have q01 := q0 1; have q02 := q0 2; have q03 := q0 3
  have k1 := kc_bd l 1; have k2 := kc_bd l 2; have k3 := kc_bd l 3
  have q11 := q1 1; have q12 := q1 2; have q13 := q1 3
  have r01 := r0 1; have r02 := r0 2; have r03 := r0 3
  have r11 := r1 1; have r12 := r1 2; have r13 := r1 3
  have hq1 : nn l n * kc l 1 / l.length = sq l n 1 := rfl
  have hq2 : nn l n * kc l 2 / l.length = sq l n 2 := rfl
  have hq3 : nn l n * kc l 3 / l.length = sq l n 3 := rfl
  have hr1 : nn l n * kc l 1 % l.length = sr l n 1 := rfl
  have hr2 : nn l n * kc l 2 % l.length = sr l n 2 := rfl
  have hr3 : nn l n * kc l 3 % l.length = sr l n 3 := rfl
  have hlf : nn l n - sq l n 1 - sq l n 2 - sq l n 3 = lf l n := rfl
  clear m0 m1 q0 q1 r0 r1
  generalize lf l n = le at *
  generalize sq l n 1 = Q1 at *
  generalize sq l n 2 = Q2 at *
  generalize sq l n 3 = Q3 at *
  generalize sr l n 1 = R1 at *
  generalize sr l n 2 = R2 at *
  generalize sr l n 3 = R3 at *
  repeat' (first
    | (with_reducible first | refine W_seq ?_ | refine W_condT rfl ?_ | refine W_condF rfl ?_ | refine W_tf rfl (fun h => ?_) (fun h => ?_) | refine W_block ?_ | refine W_scope ?_ | refine endQ_ret ?_ | refine endQ_normal ?_)
    | ((with_reducible first | refine hK _ ?_ | refine hK _ _ ?_); clear hK K)
    | ((first | (with_reducible first | refine ops_cons (fun K hK => ?_) | refine opsd_cons (fun K hK => ?_) | refine ops_nil ?_ | refine fit_i64 (by omega) ?_ | refine fit_u8 (by omega) ?_ | refine fit_u64 (by omega) ?_ | refine fit_u32 (by omega) ?_ | refine fit_any ?_ | refine quo_nn (by omega) ?_ | refine rem_nn (by omega) ?_ | refine quo_any ?_ | refine rem_any ?_ | refine sh_in (by simp only [IntKind.bits]; omega) ?_) | ((with_reducible refine opsd_nil ?_); refine And.intro (by kernel_rfl) ?_) | with_reducible refine callV_snap ?_ | ((with_reducible refine call_go countsS counts_ok ?_); refine ⟨(by first | exact alOk_nil _ | exact alOk_f rfl), _, _, counts_at l hl hv, ?_⟩) | (with_reducible first | refine slice_old ?_ | refine app_grow ?_ | refine idx_map (by omega) ?_ | refine W_reg [(0, [0, 1]), (1, [0, 1]), (2, [0, 1, 5, 6, 7]), (3, [0, 1, 5, 6, 7, 8]), (4, [0, 1, 5, 6, 7, 8, 9]), (5, [0, 1, 5, 6, 7, 8, 9, 27]), (6, [0, 1, 5, 6, 7, 8, 9]), (7, [0, 1, 5, 6, 7, 8, 9]), (8, [0, 1, 5, 6, 7, 8, 9]), (9, [6, 7, 8, 61]), (10, [6, 7, 8]), (11, [6, 7, 8, 10]), (12, [6, 7, 8, 10, 11]), (13, [6, 7, 8, 10, 11, 65]), (14, [6, 7, 8, 10, 11]), (15, [6, 7, 8, 10, 11, 76]), (16, [6, 7, 8, 10, 11]), (17, [6, 7, 8]), (18, [4])] ?_ | refine W_drw [(0, [0, 1]), (1, [0, 1]), (2, [0, 1, 5, 6, 7]), (3, [0, 1, 5, 6, 7, 8]), (4, [0, 1, 5, 6, 7, 8, 9]), (5, [0, 1, 5, 6, 7, 8, 9, 27]), (6, [0, 1, 5, 6, 7, 8, 9]), (7, [0, 1, 5, 6, 7, 8, 9]), (8, [0, 1, 5, 6, 7, 8, 9]), (9, [6, 7, 8, 61]), (10, [6, 7, 8]), (11, [6, 7, 8, 10]), (12, [6, 7, 8, 10, 11]), (13, [6, 7, 8, 10, 11, 65]), (14, [6, 7, 8, 10, 11]), (15, [6, 7, 8, 10, 11, 76]), (16, [6, 7, 8, 10, 11]), (17, [6, 7, 8]), (18, [4])] (by kernel_rfl) ?_ | refine W_label ?_ | refine W_skip ?_ | refine W_exit ?_ | refine end_at0 ?_) | (with_reducible refine And.intro (fun h => ?_) (fun h => ?_)) | (with_reducible refine And.intro (by omega) ?_)); (try simp only [go_sem, Nat.reduceAdd, Nat.reduceSub, Nat.reduceMul, Nat.reduceDiv, Nat.reduceMod, Nat.reducePow, Nat.reduceLT, Nat.reduceEqDiff, Nat.reduceBEq, Nat.reduceLeDiff, reduceIte, reduceCtorEq, Int.reduceLT, Int.reduceLE, Int.reduceEq, Int.reduceNe, Int.reduceNeg, Int.reduceAdd, Int.reduceSub, Int.reduceMul, Int.reduceToNat, Int.reducePow, Int.reduceDiv, Int.reduceMod, Nat.reduceSucc, hnn, hlt, hc3, cnts, encDI, Try.ntmps37, Try.results37, sharesS]))
    | fail)
  refine W_rounds 4 ?_
  repeat' (first
    | (with_reducible first | refine W_seq ?_ | refine W_condT rfl ?_ | refine W_condF rfl ?_ | refine W_tf rfl (fun h => ?_) (fun h => ?_) | refine W_block ?_ | refine W_scope ?_ | refine endQ_ret ?_ | refine endQ_normal ?_)
    | ((with_reducible first | refine hK _ ?_ | refine hK _ _ ?_); clear hK K)
    | (with_reducible refine Wn_succ ?_)
    | ((first | (with_reducible first | refine ops_cons (fun K hK => ?_) | refine opsd_cons (fun K hK => ?_) | refine ops_nil ?_ | refine fit_i64 (by omega) ?_ | refine fit_u8 (by omega) ?_ | refine fit_u64 (by omega) ?_ | refine fit_u32 (by omega) ?_ | refine fit_any ?_ | refine quo_nn (by omega) ?_ | refine rem_nn (by omega) ?_ | refine quo_any ?_ | refine rem_any ?_ | refine sh_in (by simp only [IntKind.bits]; omega) ?_) | ((with_reducible refine opsd_nil ?_); refine And.intro (by kernel_rfl) ?_) | with_reducible refine callV_snap ?_ | (with_reducible first | refine slice_old ?_ | refine app_grow ?_ | refine idx_map (by omega) ?_ | refine W_reg [(0, [0, 1]), (1, [0, 1]), (2, [0, 1, 5, 6, 7]), (3, [0, 1, 5, 6, 7, 8]), (4, [0, 1, 5, 6, 7, 8, 9]), (5, [0, 1, 5, 6, 7, 8, 9, 27]), (6, [0, 1, 5, 6, 7, 8, 9]), (7, [0, 1, 5, 6, 7, 8, 9]), (8, [0, 1, 5, 6, 7, 8, 9]), (9, [6, 7, 8, 61]), (10, [6, 7, 8]), (11, [6, 7, 8, 10]), (12, [6, 7, 8, 10, 11]), (13, [6, 7, 8, 10, 11, 65]), (14, [6, 7, 8, 10, 11]), (15, [6, 7, 8, 10, 11, 76]), (16, [6, 7, 8, 10, 11]), (17, [6, 7, 8]), (18, [4])] ?_ | refine W_drw [(0, [0, 1]), (1, [0, 1]), (2, [0, 1, 5, 6, 7]), (3, [0, 1, 5, 6, 7, 8]), (4, [0, 1, 5, 6, 7, 8, 9]), (5, [0, 1, 5, 6, 7, 8, 9, 27]), (6, [0, 1, 5, 6, 7, 8, 9]), (7, [0, 1, 5, 6, 7, 8, 9]), (8, [0, 1, 5, 6, 7, 8, 9]), (9, [6, 7, 8, 61]), (10, [6, 7, 8]), (11, [6, 7, 8, 10]), (12, [6, 7, 8, 10, 11]), (13, [6, 7, 8, 10, 11, 65]), (14, [6, 7, 8, 10, 11]), (15, [6, 7, 8, 10, 11, 76]), (16, [6, 7, 8, 10, 11]), (17, [6, 7, 8]), (18, [4])] (by kernel_rfl) ?_ | refine W_label ?_ | refine W_skip ?_ | refine W_exit ?_ | refine end_at0 ?_) | (with_reducible refine And.intro (fun h => ?_) (fun h => ?_)) | (with_reducible refine And.intro (by omega) ?_)); (try simp only [go_sem, Nat.reduceAdd, Nat.reduceSub, Nat.reduceMul, Nat.reduceDiv, Nat.reduceMod, Nat.reducePow, Nat.reduceLT, Nat.reduceEqDiff, Nat.reduceBEq, Nat.reduceLeDiff, reduceIte, reduceCtorEq, Int.reduceLT, Int.reduceLE, Int.reduceEq, Int.reduceNe, Int.reduceNeg, Int.reduceAdd, Int.reduceSub, Int.reduceMul, Int.reduceToNat, Int.reducePow, Int.reduceDiv, Int.reduceMod, Nat.reduceSucc, hlt, h0, hq1, hq2, hq3, hr1, hr2, hr3, hlf, hc3, ne_eq, cnts, encDI, exists_and_left, Try.ntmps37, Try.results37, sharesS]))
    | fail)
  have B1 : 0 ≤ Q1 ∧ Q1 ≤ 1000000 := by omega
  have B2 : 0 ≤ Q2 ∧ Q2 ≤ 1000000 := by omega
  have B3 : 0 ≤ Q3 ∧ Q3 ≤ 1000000 := by omega
  have a1 : -1 < R1 := by omega
  have a2 : -1 < R2 := by omega
  have a3 : -1 < R3 := by omega
  have b1 : ¬ R1 < -1 := by omega
  have b2 : ¬ R2 < -1 := by omega
  have b3 : ¬ R3 < -1 := by omega
  clear hl hv h0 h2 n0 n1 hnn m01 m02 m03 m11 m12 m13 k1 k2 k3 q01 q02 q03 q11 q12 q13 hq1 hq2 hq3 hr1 hr2 hr3 r01 r02 r03 r11 r12 r13 hlf e hlt
  refine W_rounds 3 ?_
  rcases hleft with rfl | hleft
  · skip
    repeat' (first
      | (with_reducible first | refine W_seq ?_ | refine W_condT rfl ?_ | refine W_condF rfl ?_ | refine W_tf rfl (fun h => ?_) (fun h => ?_) | refine W_block ?_ | refine W_scope ?_ | refine endQ_ret ?_ | refine endQ_normal ?_)
      | ((with_reducible first | refine hK _ ?_ | refine hK _ _ ?_); clear hK K)
      | (with_reducible refine Wn_succ ?_)
      | ((first | (with_reducible first | refine ops_cons (fun K hK => ?_) | refine opsd_cons (fun K hK => ?_) | refine ops_nil ?_ | refine fit_i64 (by omega) ?_ | refine fit_u8 (by omega) ?_ | refine fit_u64 (by omega) ?_ | refine fit_u32 (by omega) ?_ | refine fit_any ?_ | refine quo_nn (by omega) ?_ | refine rem_nn (by omega) ?_ | refine quo_any ?_ | refine rem_any ?_ | refine sh_in (by simp only [IntKind.bits]; omega) ?_) | ((with_reducible refine opsd_nil ?_); refine And.intro (by kernel_rfl) ?_) | with_reducible refine callV_snap ?_ | (with_reducible first | refine slice_old ?_ | refine app_grow ?_ | refine idx_map (by omega) ?_ | refine W_reg [(0, [0, 1]), (1, [0, 1]), (2, [0, 1, 5, 6, 7]), (3, [0, 1, 5, 6, 7, 8]), (4, [0, 1, 5, 6, 7, 8, 9]), (5, [0, 1, 5, 6, 7, 8, 9, 27]), (6, [0, 1, 5, 6, 7, 8, 9]), (7, [0, 1, 5, 6, 7, 8, 9]), (8, [0, 1, 5, 6, 7, 8, 9]), (9, [6, 7, 8, 61]), (10, [6, 7, 8]), (11, [6, 7, 8, 10]), (12, [6, 7, 8, 10, 11]), (13, [6, 7, 8, 10, 11, 65]), (14, [6, 7, 8, 10, 11]), (15, [6, 7, 8, 10, 11, 76]), (16, [6, 7, 8, 10, 11]), (17, [6, 7, 8]), (18, [4])] ?_ | refine W_drw [(0, [0, 1]), (1, [0, 1]), (2, [0, 1, 5, 6, 7]), (3, [0, 1, 5, 6, 7, 8]), (4, [0, 1, 5, 6, 7, 8, 9]), (5, [0, 1, 5, 6, 7, 8, 9, 27]), (6, [0, 1, 5, 6, 7, 8, 9]), (7, [0, 1, 5, 6, 7, 8, 9]), (8, [0, 1, 5, 6, 7, 8, 9]), (9, [6, 7, 8, 61]), (10, [6, 7, 8]), (11, [6, 7, 8, 10]), (12, [6, 7, 8, 10, 11]), (13, [6, 7, 8, 10, 11, 65]), (14, [6, 7, 8, 10, 11]), (15, [6, 7, 8, 10, 11, 76]), (16, [6, 7, 8, 10, 11]), (17, [6, 7, 8]), (18, [4])] (by kernel_rfl) ?_ | refine W_label ?_ | refine W_skip ?_ | refine W_exit ?_ | refine end_at0 ?_) | (with_reducible refine And.intro (fun h => ?_) (fun h => ?_)) | (with_reducible refine And.intro (by omega) ?_)); (try simp only [go_sem, Nat.reduceAdd, Nat.reduceSub, Nat.reduceMul, Nat.reduceDiv, Nat.reduceMod, Nat.reducePow, Nat.reduceLT, Nat.reduceEqDiff, Nat.reduceBEq, Nat.reduceLeDiff, reduceIte, reduceCtorEq, Int.reduceLT, Int.reduceLE, Int.reduceEq, Int.reduceNe, Int.reduceNeg, Int.reduceAdd, Int.reduceSub, Int.reduceMul, Int.reduceToNat, Int.reducePow, Int.reduceDiv, Int.reduceMod, Nat.reduceSucc, hc3, Try.ntmps37, Try.results37, sharesS]))
      | fail)
    refine W_ret (endQ_ret (end_at [1] ?_))
    have z1 : rk1 R1 R2 R3 < 0 ↔ False := by unfold rk1; split <;> split <;> simp
    have z2 : rk2 R1 R2 R3 < 0 ↔ False := by unfold rk2; split <;> split <;> simp
    have z3 : rk3 R1 R2 R3 < 0 ↔ False := by unfold rk3; split <;> split <;> simp
    simp [go_sem, Try.results37, sharesS, encDI, shr3, mo, z1, z2, z3]
  by_cases c12 : R1 < R2 <;> by_cases c13 : R1 < R3 <;> by_cases c23 : R2 < R3
  all_goals first | (exfalso; omega) | skip
  all_goals rcases hleft with rfl | rfl
  all_goals
    repeat' (first
      | (with_reducible first | refine W_seq ?_ | refine W_condT rfl ?_ | refine W_condF rfl ?_ | refine W_tf rfl (fun h => ?_) (fun h => ?_) | refine W_block ?_ | refine W_scope ?_ | refine endQ_ret ?_ | refine endQ_normal ?_)
      | ((with_reducible first | refine hK _ ?_ | refine hK _ _ ?_); clear hK K)
      | (with_reducible refine Wn_succ ?_)
      | (with_reducible refine W_rounds 3 ?_)
      | ((first | (with_reducible first | refine ops_cons (fun K hK => ?_) | refine opsd_cons (fun K hK => ?_) | refine ops_nil ?_ | refine fit_i64 (by omega) ?_ | refine fit_u8 (by omega) ?_ | refine fit_u64 (by omega) ?_ | refine fit_u32 (by omega) ?_ | refine fit_any ?_ | refine quo_nn (by omega) ?_ | refine rem_nn (by omega) ?_ | refine quo_any ?_ | refine rem_any ?_ | refine sh_in (by simp only [IntKind.bits]; omega) ?_) | ((with_reducible refine opsd_nil ?_); refine And.intro (by kernel_rfl) ?_) | with_reducible refine callV_snap ?_ | (with_reducible first | refine slice_old ?_ | refine app_grow ?_ | refine idx_map (by omega) ?_ | refine W_reg [(0, [0, 1]), (1, [0, 1]), (2, [0, 1, 5, 6, 7]), (3, [0, 1, 5, 6, 7, 8]), (4, [0, 1, 5, 6, 7, 8, 9]), (5, [0, 1, 5, 6, 7, 8, 9, 27]), (6, [0, 1, 5, 6, 7, 8, 9]), (7, [0, 1, 5, 6, 7, 8, 9]), (8, [0, 1, 5, 6, 7, 8, 9]), (9, [6, 7, 8, 61]), (10, [6, 7, 8]), (11, [6, 7, 8, 10]), (12, [6, 7, 8, 10, 11]), (13, [6, 7, 8, 10, 11, 65]), (14, [6, 7, 8, 10, 11]), (15, [6, 7, 8, 10, 11, 76]), (16, [6, 7, 8, 10, 11]), (17, [6, 7, 8]), (18, [4])] ?_ | refine W_drw [(0, [0, 1]), (1, [0, 1]), (2, [0, 1, 5, 6, 7]), (3, [0, 1, 5, 6, 7, 8]), (4, [0, 1, 5, 6, 7, 8, 9]), (5, [0, 1, 5, 6, 7, 8, 9, 27]), (6, [0, 1, 5, 6, 7, 8, 9]), (7, [0, 1, 5, 6, 7, 8, 9]), (8, [0, 1, 5, 6, 7, 8, 9]), (9, [6, 7, 8, 61]), (10, [6, 7, 8]), (11, [6, 7, 8, 10]), (12, [6, 7, 8, 10, 11]), (13, [6, 7, 8, 10, 11, 65]), (14, [6, 7, 8, 10, 11]), (15, [6, 7, 8, 10, 11, 76]), (16, [6, 7, 8, 10, 11]), (17, [6, 7, 8]), (18, [4])] (by kernel_rfl) ?_ | refine W_label ?_ | refine W_skip ?_ | refine W_exit ?_ | refine end_at0 ?_) | (with_reducible refine And.intro (fun h => ?_) (fun h => ?_)) | (with_reducible refine And.intro (by omega) ?_)); (try simp only [go_sem, Nat.reduceAdd, Nat.reduceSub, Nat.reduceMul, Nat.reduceDiv, Nat.reduceMod, Nat.reducePow, Nat.reduceLT, Nat.reduceEqDiff, Nat.reduceBEq, Nat.reduceLeDiff, reduceIte, reduceCtorEq, Int.reduceLT, Int.reduceLE, Int.reduceEq, Int.reduceNe, Int.reduceNeg, Int.reduceAdd, Int.reduceSub, Int.reduceMul, Int.reduceToNat, Int.reducePow, Int.reduceDiv, Int.reduceMod, Nat.reduceSucc, hc3, c12, c13, c23, a1, a2, a3, b1, b2, b3, exists_and_left, Try.ntmps37, Try.results37, sharesS]))
      | fail)
  all_goals refine W_ret (endQ_ret (end_at [1] ?_))
  all_goals simp [go_sem, Try.results37, sharesS, encDI, shr3, mo, rk1, rk2, rk3, c12, c13, c23]
end Go.Proofs.Ytpkiabhlmjnemaa
