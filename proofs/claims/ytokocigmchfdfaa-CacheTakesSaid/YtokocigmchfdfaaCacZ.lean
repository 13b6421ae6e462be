import Derived.Test.YtokocigmchfdfaaCacX
import Derived.Test.YtokocigmchfdfaaCacG
import Derived.Test.YtokocigmchfdfaaCacQ
import Derived.Test.YtokocigmchfdfaaCacL
import Derived.Test.YtokocigmchfdfaaCacU
import Derived.Test.YtokocigmchfdfaaCacE
import Derived.Test.YtokocigmchfdfaaCacI

/- The specification's Take and Free; by the engine. -/
namespace Go.Proofs.Ytokocigmchfdfaa
open Go.RowKit
set_option maxRecDepth 100000
set_option linter.unusedSimpArgs false
set_option linter.unusedVariables false

abbrev rOwnS : Spec := CloneS
theorem rOwn_at (c : List (Int × Int)) (h : c.length ≤ 1000000) : rOwnS.rel [dS c] [] (.row 0 2 0 c.length) [.rows 38 2 (c.map encDS)] := Clone_at c h
theorem rOwn_ok : Ok Try.prog 47 rOwnS := by
  refine fn_ok rOwnS Try.func47 rfl rfl ?_
  rintro args ins res outs ⟨l, hl, rfl, rfl, rfl, rfl⟩
  refine ⟨by simp [Try.ntmps47], fun w0 V Bo mu0 => ?_⟩
  repeat' (first
    | (with_reducible first | refine W_seq ?_ | refine W_condT rfl ?_ | refine W_condF rfl ?_ | refine W_tf rfl (fun h => ?_) (fun h => ?_) | refine W_block ?_ | refine W_scope ?_ | refine endQ_ret ?_ | refine endQ_normal ?_)
    | ((with_reducible first | refine hK _ ?_ | refine hK _ _ ?_); clear hK K)
    | ((with_reducible refine And.intro (rowsS _) ?_))
    | ((first | (with_reducible first | refine ops_cons (fun K hK => ?_) | refine opsd_cons (fun K hK => ?_) | refine ops_nil ?_ | refine fit_i64 (by omega) ?_ | refine fit_u8 (by omega) ?_ | refine fit_u64 (by omega) ?_ | refine fit_u32 (by omega) ?_ | refine fit_any ?_ | refine quo_nn (by omega) ?_ | refine rem_nn (by omega) ?_ | refine quo_any ?_ | refine rem_any ?_ | refine sh_in (by simp only [IntKind.bits]; omega) ?_) | ((with_reducible refine opsd_nil ?_); refine And.intro (by kernel_rfl) ?_) | with_reducible refine callV_snap ?_ | (with_reducible first | refine slice_old ?_ | refine app_grow ?_ | refine idx_map (by omega) ?_ | refine W_reg [(0, [0]), (1, [2])] ?_ | refine W_drw [(0, [0]), (1, [2])] (by kernel_rfl) ?_ | refine W_label ?_ | refine W_skip ?_ | refine W_exit ?_ | refine W_ret ?_ | refine end_at0 ?_) | (with_reducible refine And.intro (fun h => ?_) (fun h => ?_)) | (with_reducible refine And.intro (by omega) ?_)); (try simp only [go_sem, Nat.reduceAdd, Nat.reduceSub, Nat.reduceMul, Nat.reduceDiv, Nat.reduceMod, Nat.reducePow, Nat.reduceLT, Nat.reduceEqDiff, Nat.reduceBEq, Nat.reduceLeDiff, reduceIte, reduceCtorEq, Int.reduceLT, Int.reduceLE, Int.reduceEq, Int.reduceNe, Int.reduceNeg, Int.reduceAdd, Int.reduceSub, Int.reduceMul, Int.reduceToNat, Int.reducePow, Int.reduceDiv, Int.reduceMod, Nat.reduceSucc, Try.ntmps47, Try.results47, rOwnS]))
    | fail)
  refine end_at [1] ?_
  simp [go_sem, Try.results47, rOwnS]
  exact fun _ => flatS'

abbrev rTakeBadS : Spec := TakeBadS
theorem rTakeBad_at (c : List (Int × Int)) (f : Int) (h : c.length ≤ 1000000) (hc : (cc c).1 ≠ 0) : rTakeBadS.rel [dS c, iv f] [] (.tup [.nil, iv 0, bv false, iv (cc c).1]) [] := TakeBad_at c f h hc
theorem rTakeBad_ok : Ok Try.prog 12 rTakeBadS := by
  refine fn_ok rTakeBadS Try.func12 rfl rfl ?_
  rintro args ins res outs ⟨c, f, hc, hb, rfl, rfl, rfl, rfl⟩
  refine ⟨by simp [Try.ntmps12], fun w0 V Bo mu0 => ?_⟩
  repeat' (first
    | (with_reducible first | refine W_seq ?_ | refine W_condT rfl ?_ | refine W_condF rfl ?_ | refine W_tf rfl (fun h => ?_) (fun h => ?_) | refine W_block ?_ | refine W_scope ?_ | refine endQ_ret ?_ | refine endQ_normal ?_)
    | ((with_reducible first | refine hK _ ?_ | refine hK _ _ ?_); clear hK K)
    | ((first | (with_reducible first | refine ops_cons (fun K hK => ?_) | refine opsd_cons (fun K hK => ?_) | refine ops_nil ?_ | refine fit_i64 (by omega) ?_ | refine fit_u8 (by omega) ?_ | refine fit_u64 (by omega) ?_ | refine fit_u32 (by omega) ?_ | refine fit_any ?_ | refine quo_nn (by omega) ?_ | refine rem_nn (by omega) ?_ | refine quo_any ?_ | refine rem_any ?_ | refine sh_in (by simp only [IntKind.bits]; omega) ?_) | ((with_reducible refine opsd_nil ?_); refine And.intro (by kernel_rfl) ?_) | with_reducible refine callV_snap ?_ | ((with_reducible refine call_go rCheckS rCheck_ok ?_); refine ⟨(by first | exact alOk_nil _ | exact alOk_f rfl), _, _, rCheck_at _ hc, ?_⟩) | (with_reducible first | refine slice_old ?_ | refine app_grow ?_ | refine idx_map (by omega) ?_ | refine W_reg [(0, [0, 1]), (1, [0, 1, 8]), (2, [0, 1, 8, 21]), (3, [4, 5, 6, 7]), (4, [0, 1, 28]), (5, [4, 5, 6, 7]), (6, [0, 1, 10]), (7, [0, 1, 10, 32]), (8, [0, 10, 11]), (9, [0, 10, 11, 12]), (10, [0, 10, 11, 12]), (11, [4, 5, 6, 7]), (12, [0, 1, 63]), (13, [4, 5, 6, 7]), (14, [0, 1, 13]), (15, [0, 1, 13, 76]), (16, [0, 1, 13]), (17, [0, 1, 13, 91]), (18, [4, 5, 6, 7]), (19, [1, 14]), (20, [4, 5, 6, 7])] ?_ | refine W_drw [(0, [0, 1]), (1, [0, 1, 8]), (2, [0, 1, 8, 21]), (3, [4, 5, 6, 7]), (4, [0, 1, 28]), (5, [4, 5, 6, 7]), (6, [0, 1, 10]), (7, [0, 1, 10, 32]), (8, [0, 10, 11]), (9, [0, 10, 11, 12]), (10, [0, 10, 11, 12]), (11, [4, 5, 6, 7]), (12, [0, 1, 63]), (13, [4, 5, 6, 7]), (14, [0, 1, 13]), (15, [0, 1, 13, 76]), (16, [0, 1, 13]), (17, [0, 1, 13, 91]), (18, [4, 5, 6, 7]), (19, [1, 14]), (20, [4, 5, 6, 7])] (by kernel_rfl) ?_ | refine W_label ?_ | refine W_skip ?_ | refine W_exit ?_ | refine W_ret ?_ | refine end_at0 ?_) | (with_reducible refine And.intro (fun h => ?_) (fun h => ?_)) | (with_reducible refine And.intro (by omega) ?_)); (try simp only [go_sem, Nat.reduceAdd, Nat.reduceSub, Nat.reduceMul, Nat.reduceDiv, Nat.reduceMod, Nat.reducePow, Nat.reduceLT, Nat.reduceEqDiff, Nat.reduceBEq, Nat.reduceLeDiff, reduceIte, reduceCtorEq, Int.reduceLT, Int.reduceLE, Int.reduceEq, Int.reduceNe, Int.reduceNeg, Int.reduceAdd, Int.reduceSub, Int.reduceMul, Int.reduceToNat, Int.reducePow, Int.reduceDiv, Int.reduceMod, Nat.reduceSucc, hb, Try.ntmps12, Try.results12, rTakeBadS]))
    | fail)
abbrev rTakeRgS : Spec := TakeRgS
theorem rTakeRg_at (c : List (Int × Int)) (f : Int) (h : c.length ≤ 1000000) (hv : Val c) (hf : f < -1 ∨ 256 ≤ f) : rTakeRgS.rel [dS c, iv f] [] (.tup [.nil, iv 0, bv false, iv 2]) [] := TakeRg_at c f h hv hf
theorem rTakeRg_ok : Ok Try.prog 12 rTakeRgS := by
  refine fn_ok rTakeRgS Try.func12 rfl rfl ?_
  rintro args ins res outs ⟨c, f, hc, hv, hf, rfl, rfl, rfl, rfl⟩
  refine ⟨by simp [Try.ntmps12], fun w0 V Bo mu0 => ?_⟩
  have e0 := val_cc hv
  by_cases h1 : f < -1
  · skip
    repeat' (first
      | (with_reducible first | refine W_seq ?_ | refine W_condT rfl ?_ | refine W_condF rfl ?_ | refine W_tf rfl (fun h => ?_) (fun h => ?_) | refine W_block ?_ | refine W_scope ?_ | refine endQ_ret ?_ | refine endQ_normal ?_)
      | ((with_reducible first | refine hK _ ?_ | refine hK _ _ ?_); clear hK K)
      | ((first | (with_reducible first | refine ops_cons (fun K hK => ?_) | refine opsd_cons (fun K hK => ?_) | refine ops_nil ?_ | refine fit_i64 (by omega) ?_ | refine fit_u8 (by omega) ?_ | refine fit_u64 (by omega) ?_ | refine fit_u32 (by omega) ?_ | refine fit_any ?_ | refine quo_nn (by omega) ?_ | refine rem_nn (by omega) ?_ | refine quo_any ?_ | refine rem_any ?_ | refine sh_in (by simp only [IntKind.bits]; omega) ?_) | ((with_reducible refine opsd_nil ?_); refine And.intro (by kernel_rfl) ?_) | with_reducible refine callV_snap ?_ | ((with_reducible refine call_go rCheckS rCheck_ok ?_); refine ⟨(by first | exact alOk_nil _ | exact alOk_f rfl), _, _, rCheck_at _ hc, ?_⟩) | (with_reducible first | refine slice_old ?_ | refine app_grow ?_ | refine idx_map (by omega) ?_ | refine W_reg [(0, [0, 1]), (1, [0, 1, 8]), (2, [0, 1, 8, 21]), (3, [4, 5, 6, 7]), (4, [0, 1, 28]), (5, [4, 5, 6, 7]), (6, [0, 1, 10]), (7, [0, 1, 10, 32]), (8, [0, 10, 11]), (9, [0, 10, 11, 12]), (10, [0, 10, 11, 12]), (11, [4, 5, 6, 7]), (12, [0, 1, 63]), (13, [4, 5, 6, 7]), (14, [0, 1, 13]), (15, [0, 1, 13, 76]), (16, [0, 1, 13]), (17, [0, 1, 13, 91]), (18, [4, 5, 6, 7]), (19, [1, 14]), (20, [4, 5, 6, 7])] ?_ | refine W_drw [(0, [0, 1]), (1, [0, 1, 8]), (2, [0, 1, 8, 21]), (3, [4, 5, 6, 7]), (4, [0, 1, 28]), (5, [4, 5, 6, 7]), (6, [0, 1, 10]), (7, [0, 1, 10, 32]), (8, [0, 10, 11]), (9, [0, 10, 11, 12]), (10, [0, 10, 11, 12]), (11, [4, 5, 6, 7]), (12, [0, 1, 63]), (13, [4, 5, 6, 7]), (14, [0, 1, 13]), (15, [0, 1, 13, 76]), (16, [0, 1, 13]), (17, [0, 1, 13, 91]), (18, [4, 5, 6, 7]), (19, [1, 14]), (20, [4, 5, 6, 7])] (by kernel_rfl) ?_ | refine W_label ?_ | refine W_skip ?_ | refine W_exit ?_ | refine W_ret ?_ | refine end_at0 ?_) | (with_reducible refine And.intro (fun h => ?_) (fun h => ?_)) | (with_reducible refine And.intro (by omega) ?_)); (try simp only [go_sem, Nat.reduceAdd, Nat.reduceSub, Nat.reduceMul, Nat.reduceDiv, Nat.reduceMod, Nat.reducePow, Nat.reduceLT, Nat.reduceEqDiff, Nat.reduceBEq, Nat.reduceLeDiff, reduceIte, reduceCtorEq, Int.reduceLT, Int.reduceLE, Int.reduceEq, Int.reduceNe, Int.reduceNeg, Int.reduceAdd, Int.reduceSub, Int.reduceMul, Int.reduceToNat, Int.reducePow, Int.reduceDiv, Int.reduceMod, Nat.reduceSucc, e0, h1, Try.ntmps12, Try.results12, rTakeRgS]))
      | fail)
  · have h2 : 256 ≤ f := by omega
    repeat' (first
      | (with_reducible first | refine W_seq ?_ | refine W_condT rfl ?_ | refine W_condF rfl ?_ | refine W_tf rfl (fun h => ?_) (fun h => ?_) | refine W_block ?_ | refine W_scope ?_ | refine endQ_ret ?_ | refine endQ_normal ?_)
      | ((with_reducible first | refine hK _ ?_ | refine hK _ _ ?_); clear hK K)
      | ((first | (with_reducible first | refine ops_cons (fun K hK => ?_) | refine opsd_cons (fun K hK => ?_) | refine ops_nil ?_ | refine fit_i64 (by omega) ?_ | refine fit_u8 (by omega) ?_ | refine fit_u64 (by omega) ?_ | refine fit_u32 (by omega) ?_ | refine fit_any ?_ | refine quo_nn (by omega) ?_ | refine rem_nn (by omega) ?_ | refine quo_any ?_ | refine rem_any ?_ | refine sh_in (by simp only [IntKind.bits]; omega) ?_) | ((with_reducible refine opsd_nil ?_); refine And.intro (by kernel_rfl) ?_) | with_reducible refine callV_snap ?_ | ((with_reducible refine call_go rCheckS rCheck_ok ?_); refine ⟨(by first | exact alOk_nil _ | exact alOk_f rfl), _, _, rCheck_at _ hc, ?_⟩) | (with_reducible first | refine slice_old ?_ | refine app_grow ?_ | refine idx_map (by omega) ?_ | refine W_reg [(0, [0, 1]), (1, [0, 1, 8]), (2, [0, 1, 8, 21]), (3, [4, 5, 6, 7]), (4, [0, 1, 28]), (5, [4, 5, 6, 7]), (6, [0, 1, 10]), (7, [0, 1, 10, 32]), (8, [0, 10, 11]), (9, [0, 10, 11, 12]), (10, [0, 10, 11, 12]), (11, [4, 5, 6, 7]), (12, [0, 1, 63]), (13, [4, 5, 6, 7]), (14, [0, 1, 13]), (15, [0, 1, 13, 76]), (16, [0, 1, 13]), (17, [0, 1, 13, 91]), (18, [4, 5, 6, 7]), (19, [1, 14]), (20, [4, 5, 6, 7])] ?_ | refine W_drw [(0, [0, 1]), (1, [0, 1, 8]), (2, [0, 1, 8, 21]), (3, [4, 5, 6, 7]), (4, [0, 1, 28]), (5, [4, 5, 6, 7]), (6, [0, 1, 10]), (7, [0, 1, 10, 32]), (8, [0, 10, 11]), (9, [0, 10, 11, 12]), (10, [0, 10, 11, 12]), (11, [4, 5, 6, 7]), (12, [0, 1, 63]), (13, [4, 5, 6, 7]), (14, [0, 1, 13]), (15, [0, 1, 13, 76]), (16, [0, 1, 13]), (17, [0, 1, 13, 91]), (18, [4, 5, 6, 7]), (19, [1, 14]), (20, [4, 5, 6, 7])] (by kernel_rfl) ?_ | refine W_label ?_ | refine W_skip ?_ | refine W_exit ?_ | refine W_ret ?_ | refine end_at0 ?_) | (with_reducible refine And.intro (fun h => ?_) (fun h => ?_)) | (with_reducible refine And.intro (by omega) ?_)); (try simp only [go_sem, Nat.reduceAdd, Nat.reduceSub, Nat.reduceMul, Nat.reduceDiv, Nat.reduceMod, Nat.reducePow, Nat.reduceLT, Nat.reduceEqDiff, Nat.reduceBEq, Nat.reduceLeDiff, reduceIte, reduceCtorEq, Int.reduceLT, Int.reduceLE, Int.reduceEq, Int.reduceNe, Int.reduceNeg, Int.reduceAdd, Int.reduceSub, Int.reduceMul, Int.reduceToNat, Int.reducePow, Int.reduceDiv, Int.reduceMod, Nat.reduceSucc, e0, h1, h2, Try.ntmps12, Try.results12, rTakeRgS]))
      | fail)
abbrev rTakePtS : Spec := TakePtS
theorem rTakePt_at (c : List (Int × Int)) (f : Int) (i : Nat) (h : i < c.length) (hl : c.length ≤ 1000000) (hv : Val c) (f0 : -1 ≤ f) (f1 : f < 256) (hlo : Lo c i) :
    rTakePtS.rel [dS c, iv f] [] (.tup [.row 0 2 0 c.length, iv ((c[i]).1 * 8 + plc (c[i]).2), bv false, iv 0]) [.rows 38 2 ((tk c i).map encDS)] := TakePt_at c f i h hl hv f0 f1 hlo
set_option maxHeartbeats 1000000 in
theorem rTakePt_ok : Ok Try.prog 12 rTakePtS := by
  refine fn_ok rTakePtS Try.func12 rfl rfl ?_
  rintro args ins res outs ⟨c, f, i, hlt, hc, hv, f0, f1, hlo, rfl, rfl, rfl, rfl⟩
  refine ⟨by simp [Try.ntmps12], fun w0 V Bo mu0 => ?_⟩
  have e0 := val_cc hv
  obtain ⟨b0, b1, b2, b3⟩ := hv.get i hlt
  have hn : (c[i]).2 ≠ 255 := hlo.2.1
  have g1 : ¬ f < -1 := by omega
  have g2 : ¬ 256 ≤ f := by omega
  have g3 : (0 : Int) ≤ i := by omega
  have hpi : (i : Int) < c.length := by omega
  have ht : tk c i = c.set i ((c[i]).1, (c[i]).2 + 2 ^ (plc (c[i]).2).toNat) := by simp [tk, hlt]
  have hs := set_row c i hlt ((c[i]).2 + 2 ^ (plc (c[i]).2).toNat)
  rw [← ht] at hs
  have u0 : 0 ≤ (c[i]).2 := by omega
  have hlow : low8 (c[i]).2 = plc (c[i]).2 := by unfold low8; rw [if_neg hn]
  obtain ⟨p0, p1⟩ := plc_bd (c[i]).2 u0 (by omega)
  have hb := pow8_bd _ p0 p1
  have hor := or_free (c[i]).2 _ u0 b3 p0 p1 (plc_free (c[i]).2 u0 (by omega))
  have hmul : 8 * (c[i]).1 = (c[i]).1 * 8 := Int.mul_comm _ _
  repeat' (first
    | (with_reducible first | refine W_seq ?_ | refine W_condT rfl ?_ | refine W_condF rfl ?_ | refine W_tf rfl (fun h => ?_) (fun h => ?_) | refine W_block ?_ | refine W_scope ?_ | refine endQ_ret ?_ | refine endQ_normal ?_)
    | ((with_reducible first | refine hK _ ?_ | refine hK _ _ ?_); clear hK K)
    | ((with_reducible refine idx_map2 (by omega) ?_); simp only [go_sem, Nat.reduceAdd, Nat.reduceSub, Nat.reduceMul, Nat.reduceDiv, Nat.reduceMod, Nat.reducePow, Nat.reduceLT, Nat.reduceEqDiff, Nat.reduceBEq, Nat.reduceLeDiff, reduceIte, reduceCtorEq, Int.reduceLT, Int.reduceLE, Int.reduceEq, Int.reduceNe, Int.reduceNeg, Int.reduceAdd, Int.reduceSub, Int.reduceMul, Int.reduceToNat, Int.reducePow, Int.reduceDiv, Int.reduceMod, Nat.reduceSucc, encDS, hs])
    | ((first | (with_reducible first | refine ops_cons (fun K hK => ?_) | refine opsd_cons (fun K hK => ?_) | refine ops_nil ?_ | refine fit_i64 (by omega) ?_ | refine fit_u8 (by omega) ?_ | refine fit_u64 (by omega) ?_ | refine fit_u32 (by omega) ?_ | refine fit_any ?_ | refine quo_nn (by omega) ?_ | refine rem_nn (by omega) ?_ | refine quo_any ?_ | refine rem_any ?_ | refine sh_in (by simp only [IntKind.bits]; omega) ?_) | ((with_reducible refine opsd_nil ?_); refine And.intro (by kernel_rfl) ?_) | with_reducible refine callV_snap ?_ | ((with_reducible refine call_go rCheckS rCheck_ok ?_); refine ⟨(by first | exact alOk_nil _ | exact alOk_f rfl), _, _, rCheck_at _ hc, ?_⟩) | ((with_reducible refine call_go rpartS rpart_ok ?_); refine ⟨(by first | exact alOk_nil _ | exact alOk_f rfl), _, _, rpart_at _ _ hc hv.u (.inr ⟨i, hlo, rfl⟩), ?_⟩) | ((with_reducible refine call_go rlowS rlow_ok ?_); refine ⟨(by first | exact alOk_nil _ | exact alOk_f rfl), _, _, rlow_at _ _ u0 b3, ?_⟩) | ((with_reducible refine call_go rOwnS rOwn_ok ?_); refine ⟨(by first | exact alOk_nil _ | exact alOk_f rfl), _, _, rOwn_at _ hc, ?_⟩) | (with_reducible first | refine slice_old ?_ | refine app_grow ?_ | refine idx_map (by omega) ?_ | refine W_reg [(0, [0, 1]), (1, [0, 1, 8]), (2, [0, 1, 8, 21]), (3, [4, 5, 6, 7]), (4, [0, 1, 28]), (5, [4, 5, 6, 7]), (6, [0, 1, 10]), (7, [0, 1, 10, 32]), (8, [0, 10, 11]), (9, [0, 10, 11, 12]), (10, [0, 10, 11, 12]), (11, [4, 5, 6, 7]), (12, [0, 1, 63]), (13, [4, 5, 6, 7]), (14, [0, 1, 13]), (15, [0, 1, 13, 76]), (16, [0, 1, 13]), (17, [0, 1, 13, 91]), (18, [4, 5, 6, 7]), (19, [1, 14]), (20, [4, 5, 6, 7])] ?_ | refine W_drw [(0, [0, 1]), (1, [0, 1, 8]), (2, [0, 1, 8, 21]), (3, [4, 5, 6, 7]), (4, [0, 1, 28]), (5, [4, 5, 6, 7]), (6, [0, 1, 10]), (7, [0, 1, 10, 32]), (8, [0, 10, 11]), (9, [0, 10, 11, 12]), (10, [0, 10, 11, 12]), (11, [4, 5, 6, 7]), (12, [0, 1, 63]), (13, [4, 5, 6, 7]), (14, [0, 1, 13]), (15, [0, 1, 13, 76]), (16, [0, 1, 13]), (17, [0, 1, 13, 91]), (18, [4, 5, 6, 7]), (19, [1, 14]), (20, [4, 5, 6, 7])] (by kernel_rfl) ?_ | refine W_label ?_ | refine W_skip ?_ | refine W_exit ?_ | refine W_ret ?_ | refine end_at0 ?_) | (with_reducible refine And.intro (fun h => ?_) (fun h => ?_)) | (with_reducible refine And.intro (by omega) ?_)); (try simp only [go_sem, Nat.reduceAdd, Nat.reduceSub, Nat.reduceMul, Nat.reduceDiv, Nat.reduceMod, Nat.reducePow, Nat.reduceLT, Nat.reduceEqDiff, Nat.reduceBEq, Nat.reduceLeDiff, reduceIte, reduceCtorEq, Int.reduceLT, Int.reduceLE, Int.reduceEq, Int.reduceNe, Int.reduceNeg, Int.reduceAdd, Int.reduceSub, Int.reduceMul, Int.reduceToNat, Int.reducePow, Int.reduceDiv, Int.reduceMod, Nat.reduceSucc, encDS, e0, g1, g2, g3, hpi, hs, hlow, hor, hmul, Int.one_mul, Try.ntmps12, Try.results12, rTakePtS]))
    | fail)
  generalize tk c i = c'
  refine end_at [0] ?_
  simp [go_sem, Try.results12, rTakePtS]
  exact fun _ => flatS'
abbrev rTakeFuS : Spec := TakeFuS
theorem rTakeFu_at (c : List (Int × Int)) (h : c.length ≤ 1000000) (hv : Val c) (hf : Full c) : rTakeFuS.rel [dS c, iv (-1)] [] (.tup [.nil, iv 0, bv false, iv 5]) [] := TakeFu_at c h hv hf
theorem rTakeFu_ok : Ok Try.prog 12 rTakeFuS := by
  refine fn_ok rTakeFuS Try.func12 rfl rfl ?_
  rintro args ins res outs ⟨c, hc, hv, hf, rfl, rfl, rfl, rfl⟩
  refine ⟨by simp [Try.ntmps12], fun w0 V Bo mu0 => ?_⟩
  have e0 := val_cc hv
  repeat' (first
    | (with_reducible first | refine W_seq ?_ | refine W_condT rfl ?_ | refine W_condF rfl ?_ | refine W_tf rfl (fun h => ?_) (fun h => ?_) | refine W_block ?_ | refine W_scope ?_ | refine endQ_ret ?_ | refine endQ_normal ?_)
    | ((with_reducible first | refine hK _ ?_ | refine hK _ _ ?_); clear hK K)
    | ((first | (with_reducible first | refine ops_cons (fun K hK => ?_) | refine opsd_cons (fun K hK => ?_) | refine ops_nil ?_ | refine fit_i64 (by omega) ?_ | refine fit_u8 (by omega) ?_ | refine fit_u64 (by omega) ?_ | refine fit_u32 (by omega) ?_ | refine fit_any ?_ | refine quo_nn (by omega) ?_ | refine rem_nn (by omega) ?_ | refine quo_any ?_ | refine rem_any ?_ | refine sh_in (by simp only [IntKind.bits]; omega) ?_) | ((with_reducible refine opsd_nil ?_); refine And.intro (by kernel_rfl) ?_) | with_reducible refine callV_snap ?_ | ((with_reducible refine call_go rCheckS rCheck_ok ?_); refine ⟨(by first | exact alOk_nil _ | exact alOk_f rfl), _, _, rCheck_at _ hc, ?_⟩) | ((with_reducible refine call_go rpartS rpart_ok ?_); refine ⟨(by first | exact alOk_nil _ | exact alOk_f rfl), _, _, rpart_at _ _ hc hv.u (.inl ⟨rfl, hf⟩), ?_⟩) | (with_reducible first | refine slice_old ?_ | refine app_grow ?_ | refine idx_map (by omega) ?_ | refine W_reg [(0, [0, 1]), (1, [0, 1, 8]), (2, [0, 1, 8, 21]), (3, [4, 5, 6, 7]), (4, [0, 1, 28]), (5, [4, 5, 6, 7]), (6, [0, 1, 10]), (7, [0, 1, 10, 32]), (8, [0, 10, 11]), (9, [0, 10, 11, 12]), (10, [0, 10, 11, 12]), (11, [4, 5, 6, 7]), (12, [0, 1, 63]), (13, [4, 5, 6, 7]), (14, [0, 1, 13]), (15, [0, 1, 13, 76]), (16, [0, 1, 13]), (17, [0, 1, 13, 91]), (18, [4, 5, 6, 7]), (19, [1, 14]), (20, [4, 5, 6, 7])] ?_ | refine W_drw [(0, [0, 1]), (1, [0, 1, 8]), (2, [0, 1, 8, 21]), (3, [4, 5, 6, 7]), (4, [0, 1, 28]), (5, [4, 5, 6, 7]), (6, [0, 1, 10]), (7, [0, 1, 10, 32]), (8, [0, 10, 11]), (9, [0, 10, 11, 12]), (10, [0, 10, 11, 12]), (11, [4, 5, 6, 7]), (12, [0, 1, 63]), (13, [4, 5, 6, 7]), (14, [0, 1, 13]), (15, [0, 1, 13, 76]), (16, [0, 1, 13]), (17, [0, 1, 13, 91]), (18, [4, 5, 6, 7]), (19, [1, 14]), (20, [4, 5, 6, 7])] (by kernel_rfl) ?_ | refine W_label ?_ | refine W_skip ?_ | refine W_exit ?_ | refine W_ret ?_ | refine end_at0 ?_) | (with_reducible refine And.intro (fun h => ?_) (fun h => ?_)) | (with_reducible refine And.intro (by omega) ?_)); (try simp only [go_sem, Nat.reduceAdd, Nat.reduceSub, Nat.reduceMul, Nat.reduceDiv, Nat.reduceMod, Nat.reducePow, Nat.reduceLT, Nat.reduceEqDiff, Nat.reduceBEq, Nat.reduceLeDiff, reduceIte, reduceCtorEq, Int.reduceLT, Int.reduceLE, Int.reduceEq, Int.reduceNe, Int.reduceNeg, Int.reduceAdd, Int.reduceSub, Int.reduceMul, Int.reduceToNat, Int.reducePow, Int.reduceDiv, Int.reduceMod, Nat.reduceSucc, e0, Try.ntmps12, Try.results12, rTakeFuS]))
    | fail)
abbrev rTakeExS : Spec := TakeExS
theorem rTakeEx_at (c : List (Int × Int)) (f : Int) (p : Nat) (h : p < c.length) (hl : c.length ≤ 1000000) (hv : Val c) (hf : Full c) (hx : (c[p]).1 = f) : rTakeExS.rel [dS c, iv f] [] (.tup [.nil, iv 0, bv false, iv 7]) [] := TakeEx_at c f p h hl hv hf hx
set_option maxHeartbeats 1000000 in
theorem rTakeEx_ok : Ok Try.prog 12 rTakeExS := by
  refine fn_ok rTakeExS Try.func12 rfl rfl ?_
  rintro args ins res outs ⟨c, f, p, hlt, hc, hv, hf, hx, rfl, rfl, rfl, rfl⟩
  refine ⟨by simp [Try.ntmps12], fun w0 V Bo mu0 => ?_⟩
  have e0 := val_cc hv
  obtain ⟨b0, b1, b2, b3⟩ := hv.get p hlt
  have g1 : ¬ f < -1 := by omega
  have g2 : ¬ 256 ≤ f := by omega
  have g3 : ¬ f < 0 := by omega
  have hpi : (p : Int) < c.length := by omega
  repeat' (first
    | (with_reducible first | refine W_seq ?_ | refine W_condT rfl ?_ | refine W_condF rfl ?_ | refine W_tf rfl (fun h => ?_) (fun h => ?_) | refine W_block ?_ | refine W_scope ?_ | refine endQ_ret ?_ | refine endQ_normal ?_)
    | ((with_reducible first | refine hK _ ?_ | refine hK _ _ ?_); clear hK K)
    | ((first | (with_reducible first | refine ops_cons (fun K hK => ?_) | refine opsd_cons (fun K hK => ?_) | refine ops_nil ?_ | refine fit_i64 (by omega) ?_ | refine fit_u8 (by omega) ?_ | refine fit_u64 (by omega) ?_ | refine fit_u32 (by omega) ?_ | refine fit_any ?_ | refine quo_nn (by omega) ?_ | refine rem_nn (by omega) ?_ | refine quo_any ?_ | refine rem_any ?_ | refine sh_in (by simp only [IntKind.bits]; omega) ?_) | ((with_reducible refine opsd_nil ?_); refine And.intro (by kernel_rfl) ?_) | with_reducible refine callV_snap ?_ | ((with_reducible refine call_go rCheckS rCheck_ok ?_); refine ⟨(by first | exact alOk_nil _ | exact alOk_f rfl), _, _, rCheck_at _ hc, ?_⟩) | ((with_reducible refine call_go rpartS rpart_ok ?_); refine ⟨(by first | exact alOk_nil _ | exact alOk_f rfl), _, _, rpart_at _ _ hc hv.u (.inl ⟨rfl, hf⟩), ?_⟩) | (with_reducible first | refine slice_old ?_ | refine app_grow ?_ | refine idx_map (by omega) ?_ | refine W_reg [(0, [0, 1]), (1, [0, 1, 8]), (2, [0, 1, 8, 21]), (3, [4, 5, 6, 7]), (4, [0, 1, 28]), (5, [4, 5, 6, 7]), (6, [0, 1, 10]), (7, [0, 1, 10, 32]), (8, [0, 10, 11]), (9, [0, 10, 11, 12]), (10, [0, 10, 11, 12]), (11, [4, 5, 6, 7]), (12, [0, 1, 63]), (13, [4, 5, 6, 7]), (14, [0, 1, 13]), (15, [0, 1, 13, 76]), (16, [0, 1, 13]), (17, [0, 1, 13, 91]), (18, [4, 5, 6, 7]), (19, [1, 14]), (20, [4, 5, 6, 7])] ?_ | refine W_drw [(0, [0, 1]), (1, [0, 1, 8]), (2, [0, 1, 8, 21]), (3, [4, 5, 6, 7]), (4, [0, 1, 28]), (5, [4, 5, 6, 7]), (6, [0, 1, 10]), (7, [0, 1, 10, 32]), (8, [0, 10, 11]), (9, [0, 10, 11, 12]), (10, [0, 10, 11, 12]), (11, [4, 5, 6, 7]), (12, [0, 1, 63]), (13, [4, 5, 6, 7]), (14, [0, 1, 13]), (15, [0, 1, 13, 76]), (16, [0, 1, 13]), (17, [0, 1, 13, 91]), (18, [4, 5, 6, 7]), (19, [1, 14]), (20, [4, 5, 6, 7])] (by kernel_rfl) ?_ | refine W_label ?_ | refine W_skip ?_ | refine W_exit ?_ | refine W_ret ?_ | refine end_at0 ?_) | (with_reducible refine And.intro (fun h => ?_) (fun h => ?_)) | (with_reducible refine And.intro (by omega) ?_)); (try simp only [go_sem, Nat.reduceAdd, Nat.reduceSub, Nat.reduceMul, Nat.reduceDiv, Nat.reduceMod, Nat.reducePow, Nat.reduceLT, Nat.reduceEqDiff, Nat.reduceBEq, Nat.reduceLeDiff, reduceIte, reduceCtorEq, Int.reduceLT, Int.reduceLE, Int.reduceEq, Int.reduceNe, Int.reduceNeg, Int.reduceAdd, Int.reduceSub, Int.reduceMul, Int.reduceToNat, Int.reducePow, Int.reduceDiv, Int.reduceMod, Nat.reduceSucc, e0, g1, g2, g3, Try.ntmps12, Try.results12, rTakeExS]))
    | fail)
  refine W_loop (fun k : Nat => ⟨[(0, dS c), (1, iv f), (13, iv k)], []⟩) (fun k => k ≤ p) (fun k => p - k) 0 (Nat.zero_le _) [] ?_ ?_
  · simp [go_sem]
  intro k hk
  have hki : (k : Int) < c.length := by omega
  by_cases hkp : k < p
  · have hl1 : (c[k]'(by omega)).1 < f := by rw [← hx]; exact hv.lt hkp hlt
    repeat' (first
      | (with_reducible first | refine W_seq ?_ | refine W_condT rfl ?_ | refine W_condF rfl ?_ | refine W_tf rfl (fun h => ?_) (fun h => ?_) | refine W_block ?_ | refine W_scope ?_ | refine endQ_ret ?_ | refine endQ_normal ?_)
      | ((with_reducible first | refine hK _ ?_ | refine hK _ _ ?_); clear hK K)
      | ((first | (with_reducible first | refine ops_cons (fun K hK => ?_) | refine opsd_cons (fun K hK => ?_) | refine ops_nil ?_ | refine fit_i64 (by omega) ?_ | refine fit_u8 (by omega) ?_ | refine fit_u64 (by omega) ?_ | refine fit_u32 (by omega) ?_ | refine fit_any ?_ | refine quo_nn (by omega) ?_ | refine rem_nn (by omega) ?_ | refine quo_any ?_ | refine rem_any ?_ | refine sh_in (by simp only [IntKind.bits]; omega) ?_) | ((with_reducible refine opsd_nil ?_); refine And.intro (by kernel_rfl) ?_) | with_reducible refine callV_snap ?_ | (with_reducible first | refine slice_old ?_ | refine app_grow ?_ | refine idx_map (by omega) ?_ | refine W_reg [(0, [0, 1]), (1, [0, 1, 8]), (2, [0, 1, 8, 21]), (3, [4, 5, 6, 7]), (4, [0, 1, 28]), (5, [4, 5, 6, 7]), (6, [0, 1, 10]), (7, [0, 1, 10, 32]), (8, [0, 10, 11]), (9, [0, 10, 11, 12]), (10, [0, 10, 11, 12]), (11, [4, 5, 6, 7]), (12, [0, 1, 63]), (13, [4, 5, 6, 7]), (14, [0, 1, 13]), (15, [0, 1, 13, 76]), (16, [0, 1, 13]), (17, [0, 1, 13, 91]), (18, [4, 5, 6, 7]), (19, [1, 14]), (20, [4, 5, 6, 7])] ?_ | refine W_drw [(0, [0, 1]), (1, [0, 1, 8]), (2, [0, 1, 8, 21]), (3, [4, 5, 6, 7]), (4, [0, 1, 28]), (5, [4, 5, 6, 7]), (6, [0, 1, 10]), (7, [0, 1, 10, 32]), (8, [0, 10, 11]), (9, [0, 10, 11, 12]), (10, [0, 10, 11, 12]), (11, [4, 5, 6, 7]), (12, [0, 1, 63]), (13, [4, 5, 6, 7]), (14, [0, 1, 13]), (15, [0, 1, 13, 76]), (16, [0, 1, 13]), (17, [0, 1, 13, 91]), (18, [4, 5, 6, 7]), (19, [1, 14]), (20, [4, 5, 6, 7])] (by kernel_rfl) ?_ | refine W_label ?_ | refine W_skip ?_ | refine W_exit ?_ | refine W_ret ?_ | refine end_at0 ?_) | (with_reducible refine And.intro (fun h => ?_) (fun h => ?_)) | (with_reducible refine And.intro (by omega) ?_)); (try simp only [go_sem, Nat.reduceAdd, Nat.reduceSub, Nat.reduceMul, Nat.reduceDiv, Nat.reduceMod, Nat.reducePow, Nat.reduceLT, Nat.reduceEqDiff, Nat.reduceBEq, Nat.reduceLeDiff, reduceIte, reduceCtorEq, Int.reduceLT, Int.reduceLE, Int.reduceEq, Int.reduceNe, Int.reduceNeg, Int.reduceAdd, Int.reduceSub, Int.reduceMul, Int.reduceToNat, Int.reducePow, Int.reduceDiv, Int.reduceMod, Nat.reduceSucc, encDS, hki, hl1, Try.ntmps12, Try.results12, rTakeExS]))
      | fail)
    refine ⟨k + 1, [], by omega, by omega, ?_⟩
    simp [go_sem]
  · obtain rfl : k = p := by omega
    have hl1 : ¬ (c[k]).1 < f := by omega
    repeat' (first
      | (with_reducible first | refine W_seq ?_ | refine W_condT rfl ?_ | refine W_condF rfl ?_ | refine W_tf rfl (fun h => ?_) (fun h => ?_) | refine W_block ?_ | refine W_scope ?_ | refine endQ_ret ?_ | refine endQ_normal ?_)
      | ((with_reducible first | refine hK _ ?_ | refine hK _ _ ?_); clear hK K)
      | ((first | (with_reducible first | refine ops_cons (fun K hK => ?_) | refine opsd_cons (fun K hK => ?_) | refine ops_nil ?_ | refine fit_i64 (by omega) ?_ | refine fit_u8 (by omega) ?_ | refine fit_u64 (by omega) ?_ | refine fit_u32 (by omega) ?_ | refine fit_any ?_ | refine quo_nn (by omega) ?_ | refine rem_nn (by omega) ?_ | refine quo_any ?_ | refine rem_any ?_ | refine sh_in (by simp only [IntKind.bits]; omega) ?_) | ((with_reducible refine opsd_nil ?_); refine And.intro (by kernel_rfl) ?_) | with_reducible refine callV_snap ?_ | (with_reducible first | refine slice_old ?_ | refine app_grow ?_ | refine idx_map (by omega) ?_ | refine W_reg [(0, [0, 1]), (1, [0, 1, 8]), (2, [0, 1, 8, 21]), (3, [4, 5, 6, 7]), (4, [0, 1, 28]), (5, [4, 5, 6, 7]), (6, [0, 1, 10]), (7, [0, 1, 10, 32]), (8, [0, 10, 11]), (9, [0, 10, 11, 12]), (10, [0, 10, 11, 12]), (11, [4, 5, 6, 7]), (12, [0, 1, 63]), (13, [4, 5, 6, 7]), (14, [0, 1, 13]), (15, [0, 1, 13, 76]), (16, [0, 1, 13]), (17, [0, 1, 13, 91]), (18, [4, 5, 6, 7]), (19, [1, 14]), (20, [4, 5, 6, 7])] ?_ | refine W_drw [(0, [0, 1]), (1, [0, 1, 8]), (2, [0, 1, 8, 21]), (3, [4, 5, 6, 7]), (4, [0, 1, 28]), (5, [4, 5, 6, 7]), (6, [0, 1, 10]), (7, [0, 1, 10, 32]), (8, [0, 10, 11]), (9, [0, 10, 11, 12]), (10, [0, 10, 11, 12]), (11, [4, 5, 6, 7]), (12, [0, 1, 63]), (13, [4, 5, 6, 7]), (14, [0, 1, 13]), (15, [0, 1, 13, 76]), (16, [0, 1, 13]), (17, [0, 1, 13, 91]), (18, [4, 5, 6, 7]), (19, [1, 14]), (20, [4, 5, 6, 7])] (by kernel_rfl) ?_ | refine W_label ?_ | refine W_skip ?_ | refine W_exit ?_ | refine W_ret ?_ | refine end_at0 ?_) | (with_reducible refine And.intro (fun h => ?_) (fun h => ?_)) | (with_reducible refine And.intro (by omega) ?_)); (try simp only [go_sem, Nat.reduceAdd, Nat.reduceSub, Nat.reduceMul, Nat.reduceDiv, Nat.reduceMod, Nat.reducePow, Nat.reduceLT, Nat.reduceEqDiff, Nat.reduceBEq, Nat.reduceLeDiff, reduceIte, reduceCtorEq, Int.reduceLT, Int.reduceLE, Int.reduceEq, Int.reduceNe, Int.reduceNeg, Int.reduceAdd, Int.reduceSub, Int.reduceMul, Int.reduceToNat, Int.reducePow, Int.reduceDiv, Int.reduceMod, Nat.reduceSucc, encDS, hki, hl1, hx, Int.lt_irrefl, Try.ntmps12, Try.results12, rTakeExS]))
      | fail)

/-- the slab f, with one object, among the slabs of c -/
def ins (c : List (Int × Int)) (p : Nat) (f : Int) : List (Int × Int) := c.take p ++ (f, 1) :: c.drop p
def TakeInS : Spec := { rel := fun args ins' res outs => ∃ (c : List (Int × Int)) (f : Int) (p : Nat), c.length ≤ 100000 ∧ Val c ∧ Full c ∧ 0 ≤ f ∧ f < 256 ∧ At c f p ∧ (∀ h : p < c.length, (c[p]).1 ≠ f) ∧ args = [dS c, iv f] ∧ ins' = [] ∧ res = .tup [.row 0 2 0 (c.length + 1), iv (f * 8), bv true, iv 0] ∧ outs = [.rows 38 2 ((ins c p f).map encDS)] }
abbrev rTakeInS : Spec := TakeInS
theorem rTakeIn_at (c : List (Int × Int)) (f : Int) (p : Nat) (h : c.length ≤ 100000) (hv : Val c) (hf : Full c) (f0 : 0 ≤ f) (f1 : f < 256) (ha : At c f p) (hn : ∀ h : p < c.length, (c[p]).1 ≠ f) :
    rTakeInS.rel [dS c, iv f] [] (.tup [.row 0 2 0 (c.length + 1), iv (f * 8), bv true, iv 0]) [.rows 38 2 ((ins c p f).map encDS)] := ⟨c, f, p, h, hv, hf, f0, f1, ha, hn, rfl, rfl, rfl, rfl⟩
set_option maxHeartbeats 2000000 in
theorem rTakeIn_ok : Ok Try.prog 12 rTakeInS := by
  refine fn_ok rTakeInS Try.func12 rfl rfl ?_
  rintro args ins res outs ⟨c, f, p, hc, hv, hf, f0, f1, ha, hn, rfl, rfl, rfl, rfl⟩
  refine ⟨by simp [Try.ntmps12], fun w0 V Bo mu0 => ?_⟩
  have e0 := val_cc hv
  have hc6 : c.length ≤ 1000000 := by omega
  obtain ⟨hp, hlo, hhi⟩ := ha
  have g1 : ¬ f < -1 := by omega
  have g2 : ¬ 256 ≤ f := by omega
  have g3 : ¬ f < 0 := by omega
  repeat' (first
    | (with_reducible first | refine W_seq ?_ | refine W_condT rfl ?_ | refine W_condF rfl ?_ | refine W_tf rfl (fun h => ?_) (fun h => ?_) | refine W_block ?_ | refine W_scope ?_ | refine endQ_ret ?_ | refine endQ_normal ?_)
    | ((with_reducible first | refine hK _ ?_ | refine hK _ _ ?_); clear hK K)
    | ((first | (with_reducible first | refine ops_cons (fun K hK => ?_) | refine opsd_cons (fun K hK => ?_) | refine ops_nil ?_ | refine fit_i64 (by omega) ?_ | refine fit_u8 (by omega) ?_ | refine fit_u64 (by omega) ?_ | refine fit_u32 (by omega) ?_ | refine fit_any ?_ | refine quo_nn (by omega) ?_ | refine rem_nn (by omega) ?_ | refine quo_any ?_ | refine rem_any ?_ | refine sh_in (by simp only [IntKind.bits]; omega) ?_) | ((with_reducible refine opsd_nil ?_); refine And.intro (by kernel_rfl) ?_) | with_reducible refine callV_snap ?_ | ((with_reducible refine call_go rCheckS rCheck_ok ?_); refine ⟨(by first | exact alOk_nil _ | exact alOk_f rfl), _, _, rCheck_at _ hc6, ?_⟩) | ((with_reducible refine call_go rpartS rpart_ok ?_); refine ⟨(by first | exact alOk_nil _ | exact alOk_f rfl), _, _, rpart_at _ _ hc6 hv.u (.inl ⟨rfl, hf⟩), ?_⟩) | (with_reducible first | refine slice_old ?_ | refine app_grow ?_ | refine idx_map (by omega) ?_ | refine W_reg [(0, [0, 1]), (1, [0, 1, 8]), (2, [0, 1, 8, 21]), (3, [4, 5, 6, 7]), (4, [0, 1, 28]), (5, [4, 5, 6, 7]), (6, [0, 1, 10]), (7, [0, 1, 10, 32]), (8, [0, 10, 11]), (9, [0, 10, 11, 12]), (10, [0, 10, 11, 12]), (11, [4, 5, 6, 7]), (12, [0, 1, 63]), (13, [4, 5, 6, 7]), (14, [0, 1, 13]), (15, [0, 1, 13, 76]), (16, [0, 1, 13]), (17, [0, 1, 13, 91]), (18, [4, 5, 6, 7]), (19, [1, 14]), (20, [4, 5, 6, 7])] ?_ | refine W_drw [(0, [0, 1]), (1, [0, 1, 8]), (2, [0, 1, 8, 21]), (3, [4, 5, 6, 7]), (4, [0, 1, 28]), (5, [4, 5, 6, 7]), (6, [0, 1, 10]), (7, [0, 1, 10, 32]), (8, [0, 10, 11]), (9, [0, 10, 11, 12]), (10, [0, 10, 11, 12]), (11, [4, 5, 6, 7]), (12, [0, 1, 63]), (13, [4, 5, 6, 7]), (14, [0, 1, 13]), (15, [0, 1, 13, 76]), (16, [0, 1, 13]), (17, [0, 1, 13, 91]), (18, [4, 5, 6, 7]), (19, [1, 14]), (20, [4, 5, 6, 7])] (by kernel_rfl) ?_ | refine W_label ?_ | refine W_skip ?_ | refine W_exit ?_ | refine W_ret ?_ | refine end_at0 ?_) | (with_reducible refine And.intro (fun h => ?_) (fun h => ?_)) | (with_reducible refine And.intro (by omega) ?_)); (try simp only [go_sem, Nat.reduceAdd, Nat.reduceSub, Nat.reduceMul, Nat.reduceDiv, Nat.reduceMod, Nat.reducePow, Nat.reduceLT, Nat.reduceEqDiff, Nat.reduceBEq, Nat.reduceLeDiff, reduceIte, reduceCtorEq, Int.reduceLT, Int.reduceLE, Int.reduceEq, Int.reduceNe, Int.reduceNeg, Int.reduceAdd, Int.reduceSub, Int.reduceMul, Int.reduceToNat, Int.reducePow, Int.reduceDiv, Int.reduceMod, Nat.reduceSucc, e0, g1, g2, g3, Try.ntmps12, Try.results12, rTakeInS]))
    | fail)
  refine W_loop (fun k : Nat => ⟨[(0, dS c), (1, iv f), (13, iv k)], []⟩) (fun k => k ≤ p) (fun k => p - k) 0 (Nat.zero_le _) [] ?_ ?_
  · simp [go_sem]
  intro k hk
  by_cases hkp : k < p
  · have hki : (k : Int) < c.length := by omega
    have hl1 : (c[k]'(by omega)).1 < f := hlo k (by omega) hkp
    repeat' (first
      | (with_reducible first | refine W_seq ?_ | refine W_condT rfl ?_ | refine W_condF rfl ?_ | refine W_tf rfl (fun h => ?_) (fun h => ?_) | refine W_block ?_ | refine W_scope ?_ | refine endQ_ret ?_ | refine endQ_normal ?_)
      | ((with_reducible first | refine hK _ ?_ | refine hK _ _ ?_); clear hK K)
      | ((first | (with_reducible first | refine ops_cons (fun K hK => ?_) | refine opsd_cons (fun K hK => ?_) | refine ops_nil ?_ | refine fit_i64 (by omega) ?_ | refine fit_u8 (by omega) ?_ | refine fit_u64 (by omega) ?_ | refine fit_u32 (by omega) ?_ | refine fit_any ?_ | refine quo_nn (by omega) ?_ | refine rem_nn (by omega) ?_ | refine quo_any ?_ | refine rem_any ?_ | refine sh_in (by simp only [IntKind.bits]; omega) ?_) | ((with_reducible refine opsd_nil ?_); refine And.intro (by kernel_rfl) ?_) | with_reducible refine callV_snap ?_ | (with_reducible first | refine slice_old ?_ | refine app_grow ?_ | refine idx_map (by omega) ?_ | refine W_reg [(0, [0, 1]), (1, [0, 1, 8]), (2, [0, 1, 8, 21]), (3, [4, 5, 6, 7]), (4, [0, 1, 28]), (5, [4, 5, 6, 7]), (6, [0, 1, 10]), (7, [0, 1, 10, 32]), (8, [0, 10, 11]), (9, [0, 10, 11, 12]), (10, [0, 10, 11, 12]), (11, [4, 5, 6, 7]), (12, [0, 1, 63]), (13, [4, 5, 6, 7]), (14, [0, 1, 13]), (15, [0, 1, 13, 76]), (16, [0, 1, 13]), (17, [0, 1, 13, 91]), (18, [4, 5, 6, 7]), (19, [1, 14]), (20, [4, 5, 6, 7])] ?_ | refine W_drw [(0, [0, 1]), (1, [0, 1, 8]), (2, [0, 1, 8, 21]), (3, [4, 5, 6, 7]), (4, [0, 1, 28]), (5, [4, 5, 6, 7]), (6, [0, 1, 10]), (7, [0, 1, 10, 32]), (8, [0, 10, 11]), (9, [0, 10, 11, 12]), (10, [0, 10, 11, 12]), (11, [4, 5, 6, 7]), (12, [0, 1, 63]), (13, [4, 5, 6, 7]), (14, [0, 1, 13]), (15, [0, 1, 13, 76]), (16, [0, 1, 13]), (17, [0, 1, 13, 91]), (18, [4, 5, 6, 7]), (19, [1, 14]), (20, [4, 5, 6, 7])] (by kernel_rfl) ?_ | refine W_label ?_ | refine W_skip ?_ | refine W_exit ?_ | refine W_ret ?_ | refine end_at0 ?_) | (with_reducible refine And.intro (fun h => ?_) (fun h => ?_)) | (with_reducible refine And.intro (by omega) ?_)); (try simp only [go_sem, Nat.reduceAdd, Nat.reduceSub, Nat.reduceMul, Nat.reduceDiv, Nat.reduceMod, Nat.reducePow, Nat.reduceLT, Nat.reduceEqDiff, Nat.reduceBEq, Nat.reduceLeDiff, reduceIte, reduceCtorEq, Int.reduceLT, Int.reduceLE, Int.reduceEq, Int.reduceNe, Int.reduceNeg, Int.reduceAdd, Int.reduceSub, Int.reduceMul, Int.reduceToNat, Int.reducePow, Int.reduceDiv, Int.reduceMod, Nat.reduceSucc, encDS, hki, hl1, Try.ntmps12, Try.results12, rTakeInS]))
      | fail)
    refine ⟨k + 1, [], by omega, by omega, ?_⟩
    simp [go_sem]
  · obtain rfl : k = p := by omega
    have hmul : 8 * f = f * 8 := Int.mul_comm _ _
    have htl : (c.take k).length = k := by simp; omega
    have ht6 : (c.take k).length ≤ 1000000 := by omega
    have htk : List.take k (List.map encDS c) = List.map encDS (c.take k) := (List.map_take).symm
    have hdr : List.drop k (List.map encDS c) = List.map encDS (c.drop k) := (List.map_drop).symm
    have hdr2 : List.take (c.length - k) (List.map encDS (c.drop k)) = List.map encDS (c.drop k) := List.take_of_length_le (by simp)
    have hdl : (c.drop k).length = c.length - k := by simp
    have hins : List.map encDS (c.take k) ++ ([.int .i64 f, .int .u8 1] :: List.map encDS (c.drop k)) = List.map encDS (ins c k f) := by simp [ins, encDS]
    have hil : k + 1 + (c.length - k) = c.length + 1 := by omega
    have hrow : ∀ r ∈ [[D.int .i64 f, D.int .u8 1]], r.length = 2 := by intro r hr; simp at hr; subst hr; rfl
    have htt : List.take k (List.map encDS (List.take k c)) = List.map encDS (List.take k c) := List.take_of_length_le (by simp; omega)
    have hln : (List.map encDS (List.take k c) ++ [[D.int .i64 f, D.int .u8 1]]).length = k + 1 := by simp; omega
    have htt2 : List.take (k + 1) (List.map encDS (List.take k c) ++ [[D.int .i64 f, D.int .u8 1]]) = List.map encDS (List.take k c) ++ [[D.int .i64 f, D.int .u8 1]] := List.take_of_length_le (by rw [hln]; exact Nat.le_refl _)
    have hc9 : c.length ≤ 999999999 := by omega
    by_cases hkl : k < c.length
    · have hki : (k : Int) < c.length := by omega
      have h1 := hhi k hkl (Nat.le_refl _)
      have h2 := hn hkl
      have hl1 : ¬ (c[k]).1 < f := by omega
      repeat' (first
        | (with_reducible first | refine W_seq ?_ | refine W_condT rfl ?_ | refine W_condF rfl ?_ | refine W_tf rfl (fun h => ?_) (fun h => ?_) | refine W_block ?_ | refine W_scope ?_ | refine endQ_ret ?_ | refine endQ_normal ?_)
        | ((with_reducible first | refine hK _ ?_ | refine hK _ _ ?_); clear hK K)
        | ((with_reducible refine And.intro (rowsS _) ?_))
        | ((with_reducible refine And.intro hrow ?_))
        | ((first | (with_reducible first | refine ops_cons (fun K hK => ?_) | refine opsd_cons (fun K hK => ?_) | refine ops_nil ?_ | refine fit_i64 (by omega) ?_ | refine fit_u8 (by omega) ?_ | refine fit_u64 (by omega) ?_ | refine fit_u32 (by omega) ?_ | refine fit_any ?_ | refine quo_nn (by omega) ?_ | refine rem_nn (by omega) ?_ | refine quo_any ?_ | refine rem_any ?_ | refine sh_in (by simp only [IntKind.bits]; omega) ?_) | ((with_reducible refine opsd_nil ?_); refine And.intro (by kernel_rfl) ?_) | with_reducible refine callV_snap ?_ | ((with_reducible refine call_go rOwnS rOwn_ok ?_); refine ⟨(by first | exact alOk_nil _ | exact alOk_f rfl), _, _, rOwn_at _ ht6, ?_⟩) | (with_reducible first | refine slice_old ?_ | refine app_grow ?_ | refine idx_map (by omega) ?_ | refine W_reg [(0, [0, 1]), (1, [0, 1, 8]), (2, [0, 1, 8, 21]), (3, [4, 5, 6, 7]), (4, [0, 1, 28]), (5, [4, 5, 6, 7]), (6, [0, 1, 10]), (7, [0, 1, 10, 32]), (8, [0, 10, 11]), (9, [0, 10, 11, 12]), (10, [0, 10, 11, 12]), (11, [4, 5, 6, 7]), (12, [0, 1, 63]), (13, [4, 5, 6, 7]), (14, [0, 1, 13]), (15, [0, 1, 13, 76]), (16, [0, 1, 13]), (17, [0, 1, 13, 91]), (18, [4, 5, 6, 7]), (19, [1, 14]), (20, [4, 5, 6, 7])] ?_ | refine W_drw [(0, [0, 1]), (1, [0, 1, 8]), (2, [0, 1, 8, 21]), (3, [4, 5, 6, 7]), (4, [0, 1, 28]), (5, [4, 5, 6, 7]), (6, [0, 1, 10]), (7, [0, 1, 10, 32]), (8, [0, 10, 11]), (9, [0, 10, 11, 12]), (10, [0, 10, 11, 12]), (11, [4, 5, 6, 7]), (12, [0, 1, 63]), (13, [4, 5, 6, 7]), (14, [0, 1, 13]), (15, [0, 1, 13, 76]), (16, [0, 1, 13]), (17, [0, 1, 13, 91]), (18, [4, 5, 6, 7]), (19, [1, 14]), (20, [4, 5, 6, 7])] (by kernel_rfl) ?_ | refine W_label ?_ | refine W_skip ?_ | refine W_exit ?_ | refine W_ret ?_ | refine end_at0 ?_) | (with_reducible refine And.intro (fun h => ?_) (fun h => ?_)) | (with_reducible refine And.intro (by omega) ?_)); (try simp only [go_sem, Nat.reduceAdd, Nat.reduceSub, Nat.reduceMul, Nat.reduceDiv, Nat.reduceMod, Nat.reducePow, Nat.reduceLT, Nat.reduceEqDiff, Nat.reduceBEq, Nat.reduceLeDiff, reduceIte, reduceCtorEq, Int.reduceLT, Int.reduceLE, Int.reduceEq, Int.reduceNe, Int.reduceNeg, Int.reduceAdd, Int.reduceSub, Int.reduceMul, Int.reduceToNat, Int.reducePow, Int.reduceDiv, Int.reduceMod, Nat.reduceSucc, encDS, hki, hl1, h2, htk, hdr, hdr2, htl, hdl, hil, hmul, htt, hln, htt2, hc9, Nat.le_refl, Nat.sub_zero, List.append_assoc, List.cons_append, List.nil_append, hins, Try.ntmps12, Try.results12, rTakeInS]))
        | fail)
      refine end_at [3] ?_
      simp [go_sem, Try.results12, rTakeInS]
      exact fun _ => flatS'
    · have hki : ¬ (k : Int) < c.length := by omega
      repeat' (first
        | (with_reducible first | refine W_seq ?_ | refine W_condT rfl ?_ | refine W_condF rfl ?_ | refine W_tf rfl (fun h => ?_) (fun h => ?_) | refine W_block ?_ | refine W_scope ?_ | refine endQ_ret ?_ | refine endQ_normal ?_)
        | ((with_reducible first | refine hK _ ?_ | refine hK _ _ ?_); clear hK K)
        | ((with_reducible refine And.intro (rowsS _) ?_))
        | ((with_reducible refine And.intro hrow ?_))
        | ((first | (with_reducible first | refine ops_cons (fun K hK => ?_) | refine opsd_cons (fun K hK => ?_) | refine ops_nil ?_ | refine fit_i64 (by omega) ?_ | refine fit_u8 (by omega) ?_ | refine fit_u64 (by omega) ?_ | refine fit_u32 (by omega) ?_ | refine fit_any ?_ | refine quo_nn (by omega) ?_ | refine rem_nn (by omega) ?_ | refine quo_any ?_ | refine rem_any ?_ | refine sh_in (by simp only [IntKind.bits]; omega) ?_) | ((with_reducible refine opsd_nil ?_); refine And.intro (by kernel_rfl) ?_) | with_reducible refine callV_snap ?_ | ((with_reducible refine call_go rOwnS rOwn_ok ?_); refine ⟨(by first | exact alOk_nil _ | exact alOk_f rfl), _, _, rOwn_at _ ht6, ?_⟩) | (with_reducible first | refine slice_old ?_ | refine app_grow ?_ | refine idx_map (by omega) ?_ | refine W_reg [(0, [0, 1]), (1, [0, 1, 8]), (2, [0, 1, 8, 21]), (3, [4, 5, 6, 7]), (4, [0, 1, 28]), (5, [4, 5, 6, 7]), (6, [0, 1, 10]), (7, [0, 1, 10, 32]), (8, [0, 10, 11]), (9, [0, 10, 11, 12]), (10, [0, 10, 11, 12]), (11, [4, 5, 6, 7]), (12, [0, 1, 63]), (13, [4, 5, 6, 7]), (14, [0, 1, 13]), (15, [0, 1, 13, 76]), (16, [0, 1, 13]), (17, [0, 1, 13, 91]), (18, [4, 5, 6, 7]), (19, [1, 14]), (20, [4, 5, 6, 7])] ?_ | refine W_drw [(0, [0, 1]), (1, [0, 1, 8]), (2, [0, 1, 8, 21]), (3, [4, 5, 6, 7]), (4, [0, 1, 28]), (5, [4, 5, 6, 7]), (6, [0, 1, 10]), (7, [0, 1, 10, 32]), (8, [0, 10, 11]), (9, [0, 10, 11, 12]), (10, [0, 10, 11, 12]), (11, [4, 5, 6, 7]), (12, [0, 1, 63]), (13, [4, 5, 6, 7]), (14, [0, 1, 13]), (15, [0, 1, 13, 76]), (16, [0, 1, 13]), (17, [0, 1, 13, 91]), (18, [4, 5, 6, 7]), (19, [1, 14]), (20, [4, 5, 6, 7])] (by kernel_rfl) ?_ | refine W_label ?_ | refine W_skip ?_ | refine W_exit ?_ | refine W_ret ?_ | refine end_at0 ?_) | (with_reducible refine And.intro (fun h => ?_) (fun h => ?_)) | (with_reducible refine And.intro (by omega) ?_)); (try simp only [go_sem, Nat.reduceAdd, Nat.reduceSub, Nat.reduceMul, Nat.reduceDiv, Nat.reduceMod, Nat.reducePow, Nat.reduceLT, Nat.reduceEqDiff, Nat.reduceBEq, Nat.reduceLeDiff, reduceIte, reduceCtorEq, Int.reduceLT, Int.reduceLE, Int.reduceEq, Int.reduceNe, Int.reduceNeg, Int.reduceAdd, Int.reduceSub, Int.reduceMul, Int.reduceToNat, Int.reducePow, Int.reduceDiv, Int.reduceMod, Nat.reduceSucc, encDS, hki, htk, hdr, hdr2, htl, hdl, hil, hmul, htt, hln, htt2, hc9, Nat.le_refl, Nat.sub_zero, List.append_assoc, List.cons_append, List.nil_append, hins, Try.ntmps12, Try.results12, rTakeInS]))
        | fail)
      refine end_at [3] ?_
      simp [go_sem, Try.results12, rTakeInS]
      exact fun _ => flatS'
end Go.Proofs.Ytokocigmchfdfaa

/- The specification's Free, last, Tidy; by the engine. -/
namespace Go.Proofs.Ytokocigmchfdfaa
open Go.RowKit
set_option maxRecDepth 100000
set_option linter.unusedSimpArgs false
set_option linter.unusedVariables false

abbrev rFreeBadS : Spec := FreeBadS
theorem rFreeBad_at (c : List (Int × Int)) (o : Int) (h : c.length ≤ 1000000) (hc : (cc c).1 ≠ 0) : rFreeBadS.rel [dS c, iv o] [] (.tup [.nil, iv 0, iv (cc c).1]) [] := FreeBad_at c o h hc
theorem rFreeBad_ok : Ok Try.prog 15 rFreeBadS := by
  refine fn_ok rFreeBadS Try.func15 rfl rfl ?_
  rintro args ins res outs ⟨c, o, hc, hb, rfl, rfl, rfl, rfl⟩
  refine ⟨by simp [Try.ntmps15], fun w0 V Bo mu0 => ?_⟩
  repeat' (first
    | (with_reducible first | refine W_seq ?_ | refine W_condT rfl ?_ | refine W_condF rfl ?_ | refine W_tf rfl (fun h => ?_) (fun h => ?_) | refine W_block ?_ | refine W_scope ?_ | refine endQ_ret ?_ | refine endQ_normal ?_)
    | ((with_reducible first | refine hK _ ?_ | refine hK _ _ ?_); clear hK K)
    | ((first | (with_reducible first | refine ops_cons (fun K hK => ?_) | refine opsd_cons (fun K hK => ?_) | refine ops_nil ?_ | refine fit_i64 (by omega) ?_ | refine fit_u8 (by omega) ?_ | refine fit_u64 (by omega) ?_ | refine fit_u32 (by omega) ?_ | refine fit_any ?_ | refine quo_nn (by omega) ?_ | refine rem_nn (by omega) ?_ | refine quo_any ?_ | refine rem_any ?_ | refine sh_in (by simp only [IntKind.bits]; omega) ?_) | ((with_reducible refine opsd_nil ?_); refine And.intro (by kernel_rfl) ?_) | with_reducible refine callV_snap ?_ | ((with_reducible refine call_go rCheckS rCheck_ok ?_); refine ⟨(by first | exact alOk_nil _ | exact alOk_f rfl), _, _, rCheck_at _ hc, ?_⟩) | (with_reducible first | refine slice_old ?_ | refine app_grow ?_ | refine idx_map (by omega) ?_ | refine W_reg [(0, [0, 1]), (1, [0, 1, 7]), (2, [0, 1, 7, 18]), (3, [4, 5, 6]), (4, [0, 1, 25]), (5, [4, 5, 6]), (6, [0, 1, 9]), (7, [0, 1, 9, 29]), (8, [0, 1, 9]), (9, [0, 1, 9, 10]), (10, [0, 1, 9, 10, 50]), (11, [0, 9, 10, 11]), (12, [0, 9, 11]), (13, [0, 9, 11, 71]), (14, [4, 5, 6]), (15, [4, 5, 6]), (16, [4, 5, 6])] ?_ | refine W_drw [(0, [0, 1]), (1, [0, 1, 7]), (2, [0, 1, 7, 18]), (3, [4, 5, 6]), (4, [0, 1, 25]), (5, [4, 5, 6]), (6, [0, 1, 9]), (7, [0, 1, 9, 29]), (8, [0, 1, 9]), (9, [0, 1, 9, 10]), (10, [0, 1, 9, 10, 50]), (11, [0, 9, 10, 11]), (12, [0, 9, 11]), (13, [0, 9, 11, 71]), (14, [4, 5, 6]), (15, [4, 5, 6]), (16, [4, 5, 6])] (by kernel_rfl) ?_ | refine W_label ?_ | refine W_skip ?_ | refine W_exit ?_ | refine W_ret ?_ | refine end_at0 ?_) | (with_reducible refine And.intro (fun h => ?_) (fun h => ?_)) | (with_reducible refine And.intro (by omega) ?_)); (try simp only [go_sem, Nat.reduceAdd, Nat.reduceSub, Nat.reduceMul, Nat.reduceDiv, Nat.reduceMod, Nat.reducePow, Nat.reduceLT, Nat.reduceEqDiff, Nat.reduceBEq, Nat.reduceLeDiff, reduceIte, reduceCtorEq, Int.reduceLT, Int.reduceLE, Int.reduceEq, Int.reduceNe, Int.reduceNeg, Int.reduceAdd, Int.reduceSub, Int.reduceMul, Int.reduceToNat, Int.reducePow, Int.reduceDiv, Int.reduceMod, Nat.reduceSucc, hb, Try.ntmps15, Try.results15, rFreeBadS]))
    | fail)
abbrev rFreeRgS : Spec := FreeRgS
theorem rFreeRg_at (c : List (Int × Int)) (o : Int) (h : c.length ≤ 1000000) (hv : Val c) (ho : o < 0 ∨ 2048 ≤ o) : rFreeRgS.rel [dS c, iv o] [] (.tup [.nil, iv 0, iv 2]) [] := FreeRg_at c o h hv ho
theorem rFreeRg_ok : Ok Try.prog 15 rFreeRgS := by
  refine fn_ok rFreeRgS Try.func15 rfl rfl ?_
  rintro args ins res outs ⟨c, o, hc, hv, ho, rfl, rfl, rfl, rfl⟩
  refine ⟨by simp [Try.ntmps15], fun w0 V Bo mu0 => ?_⟩
  have e0 := val_cc hv
  by_cases h1 : o < 0
  · skip
    repeat' (first
      | (with_reducible first | refine W_seq ?_ | refine W_condT rfl ?_ | refine W_condF rfl ?_ | refine W_tf rfl (fun h => ?_) (fun h => ?_) | refine W_block ?_ | refine W_scope ?_ | refine endQ_ret ?_ | refine endQ_normal ?_)
      | ((with_reducible first | refine hK _ ?_ | refine hK _ _ ?_); clear hK K)
      | ((first | (with_reducible first | refine ops_cons (fun K hK => ?_) | refine opsd_cons (fun K hK => ?_) | refine ops_nil ?_ | refine fit_i64 (by omega) ?_ | refine fit_u8 (by omega) ?_ | refine fit_u64 (by omega) ?_ | refine fit_u32 (by omega) ?_ | refine fit_any ?_ | refine quo_nn (by omega) ?_ | refine rem_nn (by omega) ?_ | refine quo_any ?_ | refine rem_any ?_ | refine sh_in (by simp only [IntKind.bits]; omega) ?_) | ((with_reducible refine opsd_nil ?_); refine And.intro (by kernel_rfl) ?_) | with_reducible refine callV_snap ?_ | ((with_reducible refine call_go rCheckS rCheck_ok ?_); refine ⟨(by first | exact alOk_nil _ | exact alOk_f rfl), _, _, rCheck_at _ hc, ?_⟩) | (with_reducible first | refine slice_old ?_ | refine app_grow ?_ | refine idx_map (by omega) ?_ | refine W_reg [(0, [0, 1]), (1, [0, 1, 7]), (2, [0, 1, 7, 18]), (3, [4, 5, 6]), (4, [0, 1, 25]), (5, [4, 5, 6]), (6, [0, 1, 9]), (7, [0, 1, 9, 29]), (8, [0, 1, 9]), (9, [0, 1, 9, 10]), (10, [0, 1, 9, 10, 50]), (11, [0, 9, 10, 11]), (12, [0, 9, 11]), (13, [0, 9, 11, 71]), (14, [4, 5, 6]), (15, [4, 5, 6]), (16, [4, 5, 6])] ?_ | refine W_drw [(0, [0, 1]), (1, [0, 1, 7]), (2, [0, 1, 7, 18]), (3, [4, 5, 6]), (4, [0, 1, 25]), (5, [4, 5, 6]), (6, [0, 1, 9]), (7, [0, 1, 9, 29]), (8, [0, 1, 9]), (9, [0, 1, 9, 10]), (10, [0, 1, 9, 10, 50]), (11, [0, 9, 10, 11]), (12, [0, 9, 11]), (13, [0, 9, 11, 71]), (14, [4, 5, 6]), (15, [4, 5, 6]), (16, [4, 5, 6])] (by kernel_rfl) ?_ | refine W_label ?_ | refine W_skip ?_ | refine W_exit ?_ | refine W_ret ?_ | refine end_at0 ?_) | (with_reducible refine And.intro (fun h => ?_) (fun h => ?_)) | (with_reducible refine And.intro (by omega) ?_)); (try simp only [go_sem, Nat.reduceAdd, Nat.reduceSub, Nat.reduceMul, Nat.reduceDiv, Nat.reduceMod, Nat.reducePow, Nat.reduceLT, Nat.reduceEqDiff, Nat.reduceBEq, Nat.reduceLeDiff, reduceIte, reduceCtorEq, Int.reduceLT, Int.reduceLE, Int.reduceEq, Int.reduceNe, Int.reduceNeg, Int.reduceAdd, Int.reduceSub, Int.reduceMul, Int.reduceToNat, Int.reducePow, Int.reduceDiv, Int.reduceMod, Nat.reduceSucc, e0, h1, Try.ntmps15, Try.results15, rFreeRgS]))
      | fail)
  · have h2 : 2048 ≤ o := by omega
    repeat' (first
      | (with_reducible first | refine W_seq ?_ | refine W_condT rfl ?_ | refine W_condF rfl ?_ | refine W_tf rfl (fun h => ?_) (fun h => ?_) | refine W_block ?_ | refine W_scope ?_ | refine endQ_ret ?_ | refine endQ_normal ?_)
      | ((with_reducible first | refine hK _ ?_ | refine hK _ _ ?_); clear hK K)
      | ((first | (with_reducible first | refine ops_cons (fun K hK => ?_) | refine opsd_cons (fun K hK => ?_) | refine ops_nil ?_ | refine fit_i64 (by omega) ?_ | refine fit_u8 (by omega) ?_ | refine fit_u64 (by omega) ?_ | refine fit_u32 (by omega) ?_ | refine fit_any ?_ | refine quo_nn (by omega) ?_ | refine rem_nn (by omega) ?_ | refine quo_any ?_ | refine rem_any ?_ | refine sh_in (by simp only [IntKind.bits]; omega) ?_) | ((with_reducible refine opsd_nil ?_); refine And.intro (by kernel_rfl) ?_) | with_reducible refine callV_snap ?_ | ((with_reducible refine call_go rCheckS rCheck_ok ?_); refine ⟨(by first | exact alOk_nil _ | exact alOk_f rfl), _, _, rCheck_at _ hc, ?_⟩) | (with_reducible first | refine slice_old ?_ | refine app_grow ?_ | refine idx_map (by omega) ?_ | refine W_reg [(0, [0, 1]), (1, [0, 1, 7]), (2, [0, 1, 7, 18]), (3, [4, 5, 6]), (4, [0, 1, 25]), (5, [4, 5, 6]), (6, [0, 1, 9]), (7, [0, 1, 9, 29]), (8, [0, 1, 9]), (9, [0, 1, 9, 10]), (10, [0, 1, 9, 10, 50]), (11, [0, 9, 10, 11]), (12, [0, 9, 11]), (13, [0, 9, 11, 71]), (14, [4, 5, 6]), (15, [4, 5, 6]), (16, [4, 5, 6])] ?_ | refine W_drw [(0, [0, 1]), (1, [0, 1, 7]), (2, [0, 1, 7, 18]), (3, [4, 5, 6]), (4, [0, 1, 25]), (5, [4, 5, 6]), (6, [0, 1, 9]), (7, [0, 1, 9, 29]), (8, [0, 1, 9]), (9, [0, 1, 9, 10]), (10, [0, 1, 9, 10, 50]), (11, [0, 9, 10, 11]), (12, [0, 9, 11]), (13, [0, 9, 11, 71]), (14, [4, 5, 6]), (15, [4, 5, 6]), (16, [4, 5, 6])] (by kernel_rfl) ?_ | refine W_label ?_ | refine W_skip ?_ | refine W_exit ?_ | refine W_ret ?_ | refine end_at0 ?_) | (with_reducible refine And.intro (fun h => ?_) (fun h => ?_)) | (with_reducible refine And.intro (by omega) ?_)); (try simp only [go_sem, Nat.reduceAdd, Nat.reduceSub, Nat.reduceMul, Nat.reduceDiv, Nat.reduceMod, Nat.reducePow, Nat.reduceLT, Nat.reduceEqDiff, Nat.reduceBEq, Nat.reduceLeDiff, reduceIte, reduceCtorEq, Int.reduceLT, Int.reduceLE, Int.reduceEq, Int.reduceNe, Int.reduceNeg, Int.reduceAdd, Int.reduceSub, Int.reduceMul, Int.reduceToNat, Int.reducePow, Int.reduceDiv, Int.reduceMod, Nat.reduceSucc, e0, h1, h2, Try.ntmps15, Try.results15, rFreeRgS]))
      | fail)
abbrev rFreeMsS : Spec := FreeMsS
theorem rFreeMs_at (c : List (Int × Int)) (o : Int) (p : Nat) (h : c.length ≤ 1000000) (hv : Val c) (o0 : 0 ≤ o) (o1 : o < 2048) (ha : At c (o / 8) p) (hu : ∀ h : p < c.length, (c[p]).1 = o / 8 → usd (c[p]).2 (o % 8) = false) : rFreeMsS.rel [dS c, iv o] [] (.tup [.nil, iv 0, iv 6]) [] := FreeMs_at c o p h hv o0 o1 ha hu
theorem At.uniq {c : List (Int × Int)} {x : Int} {p : Nat} (hv : Val c) (ha : At c x p) {k : Nat} (hk : k < c.length) (hx : (c[k]).1 = x) : k = p := by
  obtain ⟨h1, h2, h3⟩ := ha
  rcases Nat.lt_trichotomy k p with h | h | h
  · have := h2 k hk h; omega
  · exact h
  · have h4 := h3 p (by omega) (Nat.le_refl _)
    have h5 := hv.lt h hk
    omega
set_option maxHeartbeats 1000000 in
theorem rFreeMs_ok : Ok Try.prog 15 rFreeMsS := by
  refine fn_ok rFreeMsS Try.func15 rfl rfl ?_
  rintro args ins res outs ⟨c, o, p, hc, hv, o0, o1, ha, hu, rfl, rfl, rfl, rfl⟩
  refine ⟨by simp [Try.ntmps15], fun w0 V Bo mu0 => ?_⟩
  have e0 := val_cc hv
  have g1 : ¬ o < 0 := by omega
  have g2 : ¬ 2048 ≤ o := by omega
  have m0 : 0 ≤ o % 8 := by omega
  have m1 : o % 8 ≤ 7 := by omega
  repeat' (first
    | (with_reducible first | refine W_seq ?_ | refine W_condT rfl ?_ | refine W_condF rfl ?_ | refine W_tf rfl (fun h => ?_) (fun h => ?_) | refine W_block ?_ | refine W_scope ?_ | refine endQ_ret ?_ | refine endQ_normal ?_)
    | ((with_reducible first | refine hK _ ?_ | refine hK _ _ ?_); clear hK K)
    | ((first | (with_reducible first | refine ops_cons (fun K hK => ?_) | refine opsd_cons (fun K hK => ?_) | refine ops_nil ?_ | refine fit_i64 (by omega) ?_ | refine fit_u8 (by omega) ?_ | refine fit_u64 (by omega) ?_ | refine fit_u32 (by omega) ?_ | refine fit_any ?_ | refine quo_nn (by omega) ?_ | refine rem_nn (by omega) ?_ | refine quo_any ?_ | refine rem_any ?_ | refine sh_in (by simp only [IntKind.bits]; omega) ?_) | ((with_reducible refine opsd_nil ?_); refine And.intro (by kernel_rfl) ?_) | with_reducible refine callV_snap ?_ | ((with_reducible refine call_go rCheckS rCheck_ok ?_); refine ⟨(by first | exact alOk_nil _ | exact alOk_f rfl), _, _, rCheck_at _ hc, ?_⟩) | (with_reducible first | refine slice_old ?_ | refine app_grow ?_ | refine idx_map (by omega) ?_ | refine W_reg [(0, [0, 1]), (1, [0, 1, 7]), (2, [0, 1, 7, 18]), (3, [4, 5, 6]), (4, [0, 1, 25]), (5, [4, 5, 6]), (6, [0, 1, 9]), (7, [0, 1, 9, 29]), (8, [0, 1, 9]), (9, [0, 1, 9, 10]), (10, [0, 1, 9, 10, 50]), (11, [0, 9, 10, 11]), (12, [0, 9, 11]), (13, [0, 9, 11, 71]), (14, [4, 5, 6]), (15, [4, 5, 6]), (16, [4, 5, 6])] ?_ | refine W_drw [(0, [0, 1]), (1, [0, 1, 7]), (2, [0, 1, 7, 18]), (3, [4, 5, 6]), (4, [0, 1, 25]), (5, [4, 5, 6]), (6, [0, 1, 9]), (7, [0, 1, 9, 29]), (8, [0, 1, 9]), (9, [0, 1, 9, 10]), (10, [0, 1, 9, 10, 50]), (11, [0, 9, 10, 11]), (12, [0, 9, 11]), (13, [0, 9, 11, 71]), (14, [4, 5, 6]), (15, [4, 5, 6]), (16, [4, 5, 6])] (by kernel_rfl) ?_ | refine W_label ?_ | refine W_skip ?_ | refine W_exit ?_ | refine W_ret ?_ | refine end_at0 ?_) | (with_reducible refine And.intro (fun h => ?_) (fun h => ?_)) | (with_reducible refine And.intro (by omega) ?_)); (try simp only [go_sem, Nat.reduceAdd, Nat.reduceSub, Nat.reduceMul, Nat.reduceDiv, Nat.reduceMod, Nat.reducePow, Nat.reduceLT, Nat.reduceEqDiff, Nat.reduceBEq, Nat.reduceLeDiff, reduceIte, reduceCtorEq, Int.reduceLT, Int.reduceLE, Int.reduceEq, Int.reduceNe, Int.reduceNeg, Int.reduceAdd, Int.reduceSub, Int.reduceMul, Int.reduceToNat, Int.reducePow, Int.reduceDiv, Int.reduceMod, Nat.reduceSucc, e0, g1, g2, Try.ntmps15, Try.results15, rFreeMsS]))
    | fail)
  refine W_loop (fun k : Nat => ⟨[(0, dS c), (1, iv o), (9, iv k)], []⟩) (fun k => k ≤ c.length) (fun k => c.length - k) 0 (Nat.zero_le _) [] ?_ ?_
  · simp [go_sem]
  intro k hk
  by_cases hlt : k < c.length
  · have hki : (k : Int) < c.length := by omega
    obtain ⟨b0, b1, b2, b3⟩ := hv.get k hlt
    have u0 : 0 ≤ (c[k]).2 := by omega
    by_cases hx : (c[k]).1 = o / 8
    · obtain rfl := ha.uniq hv hlt hx
      have hf := hu hlt hx
      repeat' (first
        | (with_reducible first | refine W_seq ?_ | refine W_condT rfl ?_ | refine W_condF rfl ?_ | refine W_tf rfl (fun h => ?_) (fun h => ?_) | refine W_block ?_ | refine W_scope ?_ | refine endQ_ret ?_ | refine endQ_normal ?_)
        | ((with_reducible first | refine hK _ ?_ | refine hK _ _ ?_); clear hK K)
        | ((first | (with_reducible first | refine ops_cons (fun K hK => ?_) | refine opsd_cons (fun K hK => ?_) | refine ops_nil ?_ | refine fit_i64 (by omega) ?_ | refine fit_u8 (by omega) ?_ | refine fit_u64 (by omega) ?_ | refine fit_u32 (by omega) ?_ | refine fit_any ?_ | refine quo_nn (by omega) ?_ | refine rem_nn (by omega) ?_ | refine quo_any ?_ | refine rem_any ?_ | refine sh_in (by simp only [IntKind.bits]; omega) ?_) | ((with_reducible refine opsd_nil ?_); refine And.intro (by kernel_rfl) ?_) | with_reducible refine callV_snap ?_ | ((with_reducible refine call_go rusdS rusd_ok ?_); refine ⟨(by first | exact alOk_nil _ | exact alOk_f rfl), _, _, rusd_at _ _ _ _ u0 b3 m0 m1 hf, ?_⟩) | (with_reducible first | refine slice_old ?_ | refine app_grow ?_ | refine idx_map (by omega) ?_ | refine W_reg [(0, [0, 1]), (1, [0, 1, 7]), (2, [0, 1, 7, 18]), (3, [4, 5, 6]), (4, [0, 1, 25]), (5, [4, 5, 6]), (6, [0, 1, 9]), (7, [0, 1, 9, 29]), (8, [0, 1, 9]), (9, [0, 1, 9, 10]), (10, [0, 1, 9, 10, 50]), (11, [0, 9, 10, 11]), (12, [0, 9, 11]), (13, [0, 9, 11, 71]), (14, [4, 5, 6]), (15, [4, 5, 6]), (16, [4, 5, 6])] ?_ | refine W_drw [(0, [0, 1]), (1, [0, 1, 7]), (2, [0, 1, 7, 18]), (3, [4, 5, 6]), (4, [0, 1, 25]), (5, [4, 5, 6]), (6, [0, 1, 9]), (7, [0, 1, 9, 29]), (8, [0, 1, 9]), (9, [0, 1, 9, 10]), (10, [0, 1, 9, 10, 50]), (11, [0, 9, 10, 11]), (12, [0, 9, 11]), (13, [0, 9, 11, 71]), (14, [4, 5, 6]), (15, [4, 5, 6]), (16, [4, 5, 6])] (by kernel_rfl) ?_ | refine W_label ?_ | refine W_skip ?_ | refine W_exit ?_ | refine W_ret ?_ | refine end_at0 ?_) | (with_reducible refine And.intro (fun h => ?_) (fun h => ?_)) | (with_reducible refine And.intro (by omega) ?_)); (try simp only [go_sem, Nat.reduceAdd, Nat.reduceSub, Nat.reduceMul, Nat.reduceDiv, Nat.reduceMod, Nat.reducePow, Nat.reduceLT, Nat.reduceEqDiff, Nat.reduceBEq, Nat.reduceLeDiff, reduceIte, reduceCtorEq, Int.reduceLT, Int.reduceLE, Int.reduceEq, Int.reduceNe, Int.reduceNeg, Int.reduceAdd, Int.reduceSub, Int.reduceMul, Int.reduceToNat, Int.reducePow, Int.reduceDiv, Int.reduceMod, Nat.reduceSucc, encDS, hki, hx, Try.ntmps15, Try.results15, rFreeMsS]))
        | fail)
      refine ⟨k + 1, [], by omega, by omega, ?_⟩
      simp [go_sem]
    · skip
      repeat' (first
        | (with_reducible first | refine W_seq ?_ | refine W_condT rfl ?_ | refine W_condF rfl ?_ | refine W_tf rfl (fun h => ?_) (fun h => ?_) | refine W_block ?_ | refine W_scope ?_ | refine endQ_ret ?_ | refine endQ_normal ?_)
        | ((with_reducible first | refine hK _ ?_ | refine hK _ _ ?_); clear hK K)
        | ((first | (with_reducible first | refine ops_cons (fun K hK => ?_) | refine opsd_cons (fun K hK => ?_) | refine ops_nil ?_ | refine fit_i64 (by omega) ?_ | refine fit_u8 (by omega) ?_ | refine fit_u64 (by omega) ?_ | refine fit_u32 (by omega) ?_ | refine fit_any ?_ | refine quo_nn (by omega) ?_ | refine rem_nn (by omega) ?_ | refine quo_any ?_ | refine rem_any ?_ | refine sh_in (by simp only [IntKind.bits]; omega) ?_) | ((with_reducible refine opsd_nil ?_); refine And.intro (by kernel_rfl) ?_) | with_reducible refine callV_snap ?_ | (with_reducible first | refine slice_old ?_ | refine app_grow ?_ | refine idx_map (by omega) ?_ | refine W_reg [(0, [0, 1]), (1, [0, 1, 7]), (2, [0, 1, 7, 18]), (3, [4, 5, 6]), (4, [0, 1, 25]), (5, [4, 5, 6]), (6, [0, 1, 9]), (7, [0, 1, 9, 29]), (8, [0, 1, 9]), (9, [0, 1, 9, 10]), (10, [0, 1, 9, 10, 50]), (11, [0, 9, 10, 11]), (12, [0, 9, 11]), (13, [0, 9, 11, 71]), (14, [4, 5, 6]), (15, [4, 5, 6]), (16, [4, 5, 6])] ?_ | refine W_drw [(0, [0, 1]), (1, [0, 1, 7]), (2, [0, 1, 7, 18]), (3, [4, 5, 6]), (4, [0, 1, 25]), (5, [4, 5, 6]), (6, [0, 1, 9]), (7, [0, 1, 9, 29]), (8, [0, 1, 9]), (9, [0, 1, 9, 10]), (10, [0, 1, 9, 10, 50]), (11, [0, 9, 10, 11]), (12, [0, 9, 11]), (13, [0, 9, 11, 71]), (14, [4, 5, 6]), (15, [4, 5, 6]), (16, [4, 5, 6])] (by kernel_rfl) ?_ | refine W_label ?_ | refine W_skip ?_ | refine W_exit ?_ | refine W_ret ?_ | refine end_at0 ?_) | (with_reducible refine And.intro (fun h => ?_) (fun h => ?_)) | (with_reducible refine And.intro (by omega) ?_)); (try simp only [go_sem, Nat.reduceAdd, Nat.reduceSub, Nat.reduceMul, Nat.reduceDiv, Nat.reduceMod, Nat.reducePow, Nat.reduceLT, Nat.reduceEqDiff, Nat.reduceBEq, Nat.reduceLeDiff, reduceIte, reduceCtorEq, Int.reduceLT, Int.reduceLE, Int.reduceEq, Int.reduceNe, Int.reduceNeg, Int.reduceAdd, Int.reduceSub, Int.reduceMul, Int.reduceToNat, Int.reducePow, Int.reduceDiv, Int.reduceMod, Nat.reduceSucc, encDS, hki, hx, Try.ntmps15, Try.results15, rFreeMsS]))
        | fail)
      refine ⟨k + 1, [], by omega, by omega, ?_⟩
      simp [go_sem]
  · have hki : ¬ (k : Int) < c.length := by omega
    repeat' (first
      | (with_reducible first | refine W_seq ?_ | refine W_condT rfl ?_ | refine W_condF rfl ?_ | refine W_tf rfl (fun h => ?_) (fun h => ?_) | refine W_block ?_ | refine W_scope ?_ | refine endQ_ret ?_ | refine endQ_normal ?_)
      | ((with_reducible first | refine hK _ ?_ | refine hK _ _ ?_); clear hK K)
      | ((first | (with_reducible first | refine ops_cons (fun K hK => ?_) | refine opsd_cons (fun K hK => ?_) | refine ops_nil ?_ | refine fit_i64 (by omega) ?_ | refine fit_u8 (by omega) ?_ | refine fit_u64 (by omega) ?_ | refine fit_u32 (by omega) ?_ | refine fit_any ?_ | refine quo_nn (by omega) ?_ | refine rem_nn (by omega) ?_ | refine quo_any ?_ | refine rem_any ?_ | refine sh_in (by simp only [IntKind.bits]; omega) ?_) | ((with_reducible refine opsd_nil ?_); refine And.intro (by kernel_rfl) ?_) | with_reducible refine callV_snap ?_ | (with_reducible first | refine slice_old ?_ | refine app_grow ?_ | refine idx_map (by omega) ?_ | refine W_reg [(0, [0, 1]), (1, [0, 1, 7]), (2, [0, 1, 7, 18]), (3, [4, 5, 6]), (4, [0, 1, 25]), (5, [4, 5, 6]), (6, [0, 1, 9]), (7, [0, 1, 9, 29]), (8, [0, 1, 9]), (9, [0, 1, 9, 10]), (10, [0, 1, 9, 10, 50]), (11, [0, 9, 10, 11]), (12, [0, 9, 11]), (13, [0, 9, 11, 71]), (14, [4, 5, 6]), (15, [4, 5, 6]), (16, [4, 5, 6])] ?_ | refine W_drw [(0, [0, 1]), (1, [0, 1, 7]), (2, [0, 1, 7, 18]), (3, [4, 5, 6]), (4, [0, 1, 25]), (5, [4, 5, 6]), (6, [0, 1, 9]), (7, [0, 1, 9, 29]), (8, [0, 1, 9]), (9, [0, 1, 9, 10]), (10, [0, 1, 9, 10, 50]), (11, [0, 9, 10, 11]), (12, [0, 9, 11]), (13, [0, 9, 11, 71]), (14, [4, 5, 6]), (15, [4, 5, 6]), (16, [4, 5, 6])] (by kernel_rfl) ?_ | refine W_label ?_ | refine W_skip ?_ | refine W_exit ?_ | refine W_ret ?_ | refine end_at0 ?_) | (with_reducible refine And.intro (fun h => ?_) (fun h => ?_)) | (with_reducible refine And.intro (by omega) ?_)); (try simp only [go_sem, Nat.reduceAdd, Nat.reduceSub, Nat.reduceMul, Nat.reduceDiv, Nat.reduceMod, Nat.reducePow, Nat.reduceLT, Nat.reduceEqDiff, Nat.reduceBEq, Nat.reduceLeDiff, reduceIte, reduceCtorEq, Int.reduceLT, Int.reduceLE, Int.reduceEq, Int.reduceNe, Int.reduceNeg, Int.reduceAdd, Int.reduceSub, Int.reduceMul, Int.reduceToNat, Int.reducePow, Int.reduceDiv, Int.reduceMod, Nat.reduceSucc, hki, Try.ntmps15, Try.results15, rFreeMsS]))
      | fail)
abbrev rFreeKpS : Spec := FreeKpS
theorem rFreeKp_at (c : List (Int × Int)) (o : Int) (p : Nat) (h : p < c.length) (hl : c.length ≤ 1000000) (hv : Val c) (o0 : 0 ≤ o) (o1 : o < 2048) (hx : (c[p]).1 = o / 8) (hu : usd (c[p]).2 (o % 8) = true) (hz : (c[p]).2 - 2 ^ (o % 8).toNat ≠ 0) :
    rFreeKpS.rel [dS c, iv o] [] (.tup [.row 0 2 0 c.length, iv (-1), iv 0]) [.rows 38 2 ((c.set p ((c[p]).1, (c[p]).2 - 2 ^ (o % 8).toNat)).map encDS)] := FreeKp_at c o p h hl hv o0 o1 hx hu hz
set_option maxHeartbeats 1000000 in
theorem rFreeKp_ok : Ok Try.prog 15 rFreeKpS := by
  refine fn_ok rFreeKpS Try.func15 rfl rfl ?_
  rintro args ins res outs ⟨c, o, p, hlt, hc, hv, o0, o1, hx, hu, hz, rfl, rfl, rfl, rfl⟩
  refine ⟨by simp [Try.ntmps15], fun w0 V Bo mu0 => ?_⟩
  have e0 := val_cc hv
  have g1 : ¬ o < 0 := by omega
  have g2 : ¬ 2048 ≤ o := by omega
  have m0 : 0 ≤ o % 8 := by omega
  have m1 : o % 8 ≤ 7 := by omega
  have hb := pow8_bd _ m0 m1
  repeat' (first
    | (with_reducible first | refine W_seq ?_ | refine W_condT rfl ?_ | refine W_condF rfl ?_ | refine W_tf rfl (fun h => ?_) (fun h => ?_) | refine W_block ?_ | refine W_scope ?_ | refine endQ_ret ?_ | refine endQ_normal ?_)
    | ((with_reducible first | refine hK _ ?_ | refine hK _ _ ?_); clear hK K)
    | ((first | (with_reducible first | refine ops_cons (fun K hK => ?_) | refine opsd_cons (fun K hK => ?_) | refine ops_nil ?_ | refine fit_i64 (by omega) ?_ | refine fit_u8 (by omega) ?_ | refine fit_u64 (by omega) ?_ | refine fit_u32 (by omega) ?_ | refine fit_any ?_ | refine quo_nn (by omega) ?_ | refine rem_nn (by omega) ?_ | refine quo_any ?_ | refine rem_any ?_ | refine sh_in (by simp only [IntKind.bits]; omega) ?_) | ((with_reducible refine opsd_nil ?_); refine And.intro (by kernel_rfl) ?_) | with_reducible refine callV_snap ?_ | ((with_reducible refine call_go rCheckS rCheck_ok ?_); refine ⟨(by first | exact alOk_nil _ | exact alOk_f rfl), _, _, rCheck_at _ hc, ?_⟩) | (with_reducible first | refine slice_old ?_ | refine app_grow ?_ | refine idx_map (by omega) ?_ | refine W_reg [(0, [0, 1]), (1, [0, 1, 7]), (2, [0, 1, 7, 18]), (3, [4, 5, 6]), (4, [0, 1, 25]), (5, [4, 5, 6]), (6, [0, 1, 9]), (7, [0, 1, 9, 29]), (8, [0, 1, 9]), (9, [0, 1, 9, 10]), (10, [0, 1, 9, 10, 50]), (11, [0, 9, 10, 11]), (12, [0, 9, 11]), (13, [0, 9, 11, 71]), (14, [4, 5, 6]), (15, [4, 5, 6]), (16, [4, 5, 6])] ?_ | refine W_drw [(0, [0, 1]), (1, [0, 1, 7]), (2, [0, 1, 7, 18]), (3, [4, 5, 6]), (4, [0, 1, 25]), (5, [4, 5, 6]), (6, [0, 1, 9]), (7, [0, 1, 9, 29]), (8, [0, 1, 9]), (9, [0, 1, 9, 10]), (10, [0, 1, 9, 10, 50]), (11, [0, 9, 10, 11]), (12, [0, 9, 11]), (13, [0, 9, 11, 71]), (14, [4, 5, 6]), (15, [4, 5, 6]), (16, [4, 5, 6])] (by kernel_rfl) ?_ | refine W_label ?_ | refine W_skip ?_ | refine W_exit ?_ | refine W_ret ?_ | refine end_at0 ?_) | (with_reducible refine And.intro (fun h => ?_) (fun h => ?_)) | (with_reducible refine And.intro (by omega) ?_)); (try simp only [go_sem, Nat.reduceAdd, Nat.reduceSub, Nat.reduceMul, Nat.reduceDiv, Nat.reduceMod, Nat.reducePow, Nat.reduceLT, Nat.reduceEqDiff, Nat.reduceBEq, Nat.reduceLeDiff, reduceIte, reduceCtorEq, Int.reduceLT, Int.reduceLE, Int.reduceEq, Int.reduceNe, Int.reduceNeg, Int.reduceAdd, Int.reduceSub, Int.reduceMul, Int.reduceToNat, Int.reducePow, Int.reduceDiv, Int.reduceMod, Nat.reduceSucc, e0, g1, g2, Try.ntmps15, Try.results15, rFreeKpS]))
    | fail)
  refine W_loop (fun k : Nat => ⟨[(0, dS c), (1, iv o), (9, iv k)], []⟩) (fun k => k ≤ p) (fun k => p - k) 0 (Nat.zero_le _) [] ?_ ?_
  · simp [go_sem]
  intro k hk
  have hki : (k : Int) < c.length := by omega
  by_cases hkp : k < p
  · have h1 := hv.lt hkp hlt
    have hxk : ¬ (c[k]'(by omega)).1 = o / 8 := by omega
    repeat' (first
      | (with_reducible first | refine W_seq ?_ | refine W_condT rfl ?_ | refine W_condF rfl ?_ | refine W_tf rfl (fun h => ?_) (fun h => ?_) | refine W_block ?_ | refine W_scope ?_ | refine endQ_ret ?_ | refine endQ_normal ?_)
      | ((with_reducible first | refine hK _ ?_ | refine hK _ _ ?_); clear hK K)
      | ((first | (with_reducible first | refine ops_cons (fun K hK => ?_) | refine opsd_cons (fun K hK => ?_) | refine ops_nil ?_ | refine fit_i64 (by omega) ?_ | refine fit_u8 (by omega) ?_ | refine fit_u64 (by omega) ?_ | refine fit_u32 (by omega) ?_ | refine fit_any ?_ | refine quo_nn (by omega) ?_ | refine rem_nn (by omega) ?_ | refine quo_any ?_ | refine rem_any ?_ | refine sh_in (by simp only [IntKind.bits]; omega) ?_) | ((with_reducible refine opsd_nil ?_); refine And.intro (by kernel_rfl) ?_) | with_reducible refine callV_snap ?_ | (with_reducible first | refine slice_old ?_ | refine app_grow ?_ | refine idx_map (by omega) ?_ | refine W_reg [(0, [0, 1]), (1, [0, 1, 7]), (2, [0, 1, 7, 18]), (3, [4, 5, 6]), (4, [0, 1, 25]), (5, [4, 5, 6]), (6, [0, 1, 9]), (7, [0, 1, 9, 29]), (8, [0, 1, 9]), (9, [0, 1, 9, 10]), (10, [0, 1, 9, 10, 50]), (11, [0, 9, 10, 11]), (12, [0, 9, 11]), (13, [0, 9, 11, 71]), (14, [4, 5, 6]), (15, [4, 5, 6]), (16, [4, 5, 6])] ?_ | refine W_drw [(0, [0, 1]), (1, [0, 1, 7]), (2, [0, 1, 7, 18]), (3, [4, 5, 6]), (4, [0, 1, 25]), (5, [4, 5, 6]), (6, [0, 1, 9]), (7, [0, 1, 9, 29]), (8, [0, 1, 9]), (9, [0, 1, 9, 10]), (10, [0, 1, 9, 10, 50]), (11, [0, 9, 10, 11]), (12, [0, 9, 11]), (13, [0, 9, 11, 71]), (14, [4, 5, 6]), (15, [4, 5, 6]), (16, [4, 5, 6])] (by kernel_rfl) ?_ | refine W_label ?_ | refine W_skip ?_ | refine W_exit ?_ | refine W_ret ?_ | refine end_at0 ?_) | (with_reducible refine And.intro (fun h => ?_) (fun h => ?_)) | (with_reducible refine And.intro (by omega) ?_)); (try simp only [go_sem, Nat.reduceAdd, Nat.reduceSub, Nat.reduceMul, Nat.reduceDiv, Nat.reduceMod, Nat.reducePow, Nat.reduceLT, Nat.reduceEqDiff, Nat.reduceBEq, Nat.reduceLeDiff, reduceIte, reduceCtorEq, Int.reduceLT, Int.reduceLE, Int.reduceEq, Int.reduceNe, Int.reduceNeg, Int.reduceAdd, Int.reduceSub, Int.reduceMul, Int.reduceToNat, Int.reducePow, Int.reduceDiv, Int.reduceMod, Nat.reduceSucc, encDS, hki, hxk, Try.ntmps15, Try.results15, rFreeKpS]))
      | fail)
    refine ⟨k + 1, [], by omega, by omega, ?_⟩
    simp [go_sem]
  · obtain rfl : k = p := by omega
    obtain ⟨b0, b1, b2, b3⟩ := hv.get k hlt
    have u0 : 0 ≤ (c[k]).2 := by omega
    have han := andNot_used (c[k]).2 _ u0 b3 m0 m1 hu
    have hx' : o / 8 = (c[k]).1 := hx.symm
    have hs := set_row c k hlt ((c[k]).2 - 2 ^ (o % 8).toNat)
    have hs1 : (c.set k ((c[k]).1, (c[k]).2 - 2 ^ (o % 8).toNat)).length = c.length := by simp
    have hs2 : ((c.set k ((c[k]).1, (c[k]).2 - 2 ^ (o % 8).toNat))[k]'(by rw [hs1]; exact hlt)) = ((c[k]).1, (c[k]).2 - 2 ^ (o % 8).toNat) := by simp
    repeat' (first
      | (with_reducible first | refine W_seq ?_ | refine W_condT rfl ?_ | refine W_condF rfl ?_ | refine W_tf rfl (fun h => ?_) (fun h => ?_) | refine W_block ?_ | refine W_scope ?_ | refine endQ_ret ?_ | refine endQ_normal ?_)
      | ((with_reducible first | refine hK _ ?_ | refine hK _ _ ?_); clear hK K)
      | ((with_reducible refine idx_map2 (by omega) ?_); simp only [go_sem, Nat.reduceAdd, Nat.reduceSub, Nat.reduceMul, Nat.reduceDiv, Nat.reduceMod, Nat.reducePow, Nat.reduceLT, Nat.reduceEqDiff, Nat.reduceBEq, Nat.reduceLeDiff, reduceIte, reduceCtorEq, Int.reduceLT, Int.reduceLE, Int.reduceEq, Int.reduceNe, Int.reduceNeg, Int.reduceAdd, Int.reduceSub, Int.reduceMul, Int.reduceToNat, Int.reducePow, Int.reduceDiv, Int.reduceMod, Nat.reduceSucc, encDS, hs])
      | ((first | (with_reducible first | refine ops_cons (fun K hK => ?_) | refine opsd_cons (fun K hK => ?_) | refine ops_nil ?_ | refine fit_i64 (by omega) ?_ | refine fit_u8 (by omega) ?_ | refine fit_u64 (by omega) ?_ | refine fit_u32 (by omega) ?_ | refine fit_any ?_ | refine quo_nn (by omega) ?_ | refine rem_nn (by omega) ?_ | refine quo_any ?_ | refine rem_any ?_ | refine sh_in (by simp only [IntKind.bits]; omega) ?_) | ((with_reducible refine opsd_nil ?_); refine And.intro (by kernel_rfl) ?_) | with_reducible refine callV_snap ?_ | ((with_reducible refine call_go rusdS rusd_ok ?_); refine ⟨(by first | exact alOk_nil _ | exact alOk_f rfl), _, _, rusd_at _ _ _ _ u0 b3 m0 m1 hu, ?_⟩) | ((with_reducible refine call_go rOwnS rOwn_ok ?_); refine ⟨(by first | exact alOk_nil _ | exact alOk_f rfl), _, _, rOwn_at _ hc, ?_⟩) | (with_reducible first | refine slice_old ?_ | refine app_grow ?_ | refine idx_map (by omega) ?_ | refine W_reg [(0, [0, 1]), (1, [0, 1, 7]), (2, [0, 1, 7, 18]), (3, [4, 5, 6]), (4, [0, 1, 25]), (5, [4, 5, 6]), (6, [0, 1, 9]), (7, [0, 1, 9, 29]), (8, [0, 1, 9]), (9, [0, 1, 9, 10]), (10, [0, 1, 9, 10, 50]), (11, [0, 9, 10, 11]), (12, [0, 9, 11]), (13, [0, 9, 11, 71]), (14, [4, 5, 6]), (15, [4, 5, 6]), (16, [4, 5, 6])] ?_ | refine W_drw [(0, [0, 1]), (1, [0, 1, 7]), (2, [0, 1, 7, 18]), (3, [4, 5, 6]), (4, [0, 1, 25]), (5, [4, 5, 6]), (6, [0, 1, 9]), (7, [0, 1, 9, 29]), (8, [0, 1, 9]), (9, [0, 1, 9, 10]), (10, [0, 1, 9, 10, 50]), (11, [0, 9, 10, 11]), (12, [0, 9, 11]), (13, [0, 9, 11, 71]), (14, [4, 5, 6]), (15, [4, 5, 6]), (16, [4, 5, 6])] (by kernel_rfl) ?_ | refine W_label ?_ | refine W_skip ?_ | refine W_exit ?_ | refine W_ret ?_ | refine end_at0 ?_) | (with_reducible refine And.intro (fun h => ?_) (fun h => ?_)) | (with_reducible refine And.intro (by omega) ?_)); (try simp only [go_sem, Nat.reduceAdd, Nat.reduceSub, Nat.reduceMul, Nat.reduceDiv, Nat.reduceMod, Nat.reducePow, Nat.reduceLT, Nat.reduceEqDiff, Nat.reduceBEq, Nat.reduceLeDiff, reduceIte, reduceCtorEq, Int.reduceLT, Int.reduceLE, Int.reduceEq, Int.reduceNe, Int.reduceNeg, Int.reduceAdd, Int.reduceSub, Int.reduceMul, Int.reduceToNat, Int.reducePow, Int.reduceDiv, Int.reduceMod, Nat.reduceSucc, encDS, hki, hx', hz, han, hs, hs1, hs2, Int.one_mul, Try.ntmps15, Try.results15, rFreeKpS]))
      | fail)
    clear hs hs1 hs2
    generalize (c.set k ((c[k]).1, (c[k]).2 - 2 ^ (o % 8).toNat)) = c'
    refine end_at [0] ?_
    simp [go_sem, Try.results15, rFreeKpS]
    exact fun _ => flatS'
abbrev rFreeDrS : Spec := FreeDrS
theorem rFreeDr_at (c : List (Int × Int)) (o : Int) (p : Nat) (h : p < c.length) (hl : c.length ≤ 1000000) (hv : Val c) (o0 : 0 ≤ o) (o1 : o < 2048) (hx : (c[p]).1 = o / 8) (hu : usd (c[p]).2 (o % 8) = true) (hz : (c[p]).2 - 2 ^ (o % 8).toNat = 0) :
    rFreeDrS.rel [dS c, iv o] [] (.tup [.row 0 2 0 (c.length - 1), iv (o / 8), iv 0]) [.rows 38 2 ((c.eraseIdx p).map encDS)] := FreeDr_at c o p h hl hv o0 o1 hx hu hz
set_option maxHeartbeats 2000000 in
theorem rFreeDr_ok : Ok Try.prog 15 rFreeDrS := by
  refine fn_ok rFreeDrS Try.func15 rfl rfl ?_
  rintro args ins res outs ⟨c, o, p, hlt, hc, hv, o0, o1, hx, hu, hz, rfl, rfl, rfl, rfl⟩
  refine ⟨by simp [Try.ntmps15], fun w0 V Bo mu0 => ?_⟩
  have e0 := val_cc hv
  have g1 : ¬ o < 0 := by omega
  have g2 : ¬ 2048 ≤ o := by omega
  have m0 : 0 ≤ o % 8 := by omega
  have m1 : o % 8 ≤ 7 := by omega
  have hb := pow8_bd _ m0 m1
  repeat' (first
    | (with_reducible first | refine W_seq ?_ | refine W_condT rfl ?_ | refine W_condF rfl ?_ | refine W_tf rfl (fun h => ?_) (fun h => ?_) | refine W_block ?_ | refine W_scope ?_ | refine endQ_ret ?_ | refine endQ_normal ?_)
    | ((with_reducible first | refine hK _ ?_ | refine hK _ _ ?_); clear hK K)
    | ((first | (with_reducible first | refine ops_cons (fun K hK => ?_) | refine opsd_cons (fun K hK => ?_) | refine ops_nil ?_ | refine fit_i64 (by omega) ?_ | refine fit_u8 (by omega) ?_ | refine fit_u64 (by omega) ?_ | refine fit_u32 (by omega) ?_ | refine fit_any ?_ | refine quo_nn (by omega) ?_ | refine rem_nn (by omega) ?_ | refine quo_any ?_ | refine rem_any ?_ | refine sh_in (by simp only [IntKind.bits]; omega) ?_) | ((with_reducible refine opsd_nil ?_); refine And.intro (by kernel_rfl) ?_) | with_reducible refine callV_snap ?_ | ((with_reducible refine call_go rCheckS rCheck_ok ?_); refine ⟨(by first | exact alOk_nil _ | exact alOk_f rfl), _, _, rCheck_at _ hc, ?_⟩) | (with_reducible first | refine slice_old ?_ | refine app_grow ?_ | refine idx_map (by omega) ?_ | refine W_reg [(0, [0, 1]), (1, [0, 1, 7]), (2, [0, 1, 7, 18]), (3, [4, 5, 6]), (4, [0, 1, 25]), (5, [4, 5, 6]), (6, [0, 1, 9]), (7, [0, 1, 9, 29]), (8, [0, 1, 9]), (9, [0, 1, 9, 10]), (10, [0, 1, 9, 10, 50]), (11, [0, 9, 10, 11]), (12, [0, 9, 11]), (13, [0, 9, 11, 71]), (14, [4, 5, 6]), (15, [4, 5, 6]), (16, [4, 5, 6])] ?_ | refine W_drw [(0, [0, 1]), (1, [0, 1, 7]), (2, [0, 1, 7, 18]), (3, [4, 5, 6]), (4, [0, 1, 25]), (5, [4, 5, 6]), (6, [0, 1, 9]), (7, [0, 1, 9, 29]), (8, [0, 1, 9]), (9, [0, 1, 9, 10]), (10, [0, 1, 9, 10, 50]), (11, [0, 9, 10, 11]), (12, [0, 9, 11]), (13, [0, 9, 11, 71]), (14, [4, 5, 6]), (15, [4, 5, 6]), (16, [4, 5, 6])] (by kernel_rfl) ?_ | refine W_label ?_ | refine W_skip ?_ | refine W_exit ?_ | refine W_ret ?_ | refine end_at0 ?_) | (with_reducible refine And.intro (fun h => ?_) (fun h => ?_)) | (with_reducible refine And.intro (by omega) ?_)); (try simp only [go_sem, Nat.reduceAdd, Nat.reduceSub, Nat.reduceMul, Nat.reduceDiv, Nat.reduceMod, Nat.reducePow, Nat.reduceLT, Nat.reduceEqDiff, Nat.reduceBEq, Nat.reduceLeDiff, reduceIte, reduceCtorEq, Int.reduceLT, Int.reduceLE, Int.reduceEq, Int.reduceNe, Int.reduceNeg, Int.reduceAdd, Int.reduceSub, Int.reduceMul, Int.reduceToNat, Int.reducePow, Int.reduceDiv, Int.reduceMod, Nat.reduceSucc, e0, g1, g2, Try.ntmps15, Try.results15, rFreeDrS]))
    | fail)
  refine W_loop (fun k : Nat => ⟨[(0, dS c), (1, iv o), (9, iv k)], []⟩) (fun k => k ≤ p) (fun k => p - k) 0 (Nat.zero_le _) [] ?_ ?_
  · simp [go_sem]
  intro k hk
  have hki : (k : Int) < c.length := by omega
  by_cases hkp : k < p
  · have h1 := hv.lt hkp hlt
    have hxk : ¬ (c[k]'(by omega)).1 = o / 8 := by omega
    repeat' (first
      | (with_reducible first | refine W_seq ?_ | refine W_condT rfl ?_ | refine W_condF rfl ?_ | refine W_tf rfl (fun h => ?_) (fun h => ?_) | refine W_block ?_ | refine W_scope ?_ | refine endQ_ret ?_ | refine endQ_normal ?_)
      | ((with_reducible first | refine hK _ ?_ | refine hK _ _ ?_); clear hK K)
      | ((first | (with_reducible first | refine ops_cons (fun K hK => ?_) | refine opsd_cons (fun K hK => ?_) | refine ops_nil ?_ | refine fit_i64 (by omega) ?_ | refine fit_u8 (by omega) ?_ | refine fit_u64 (by omega) ?_ | refine fit_u32 (by omega) ?_ | refine fit_any ?_ | refine quo_nn (by omega) ?_ | refine rem_nn (by omega) ?_ | refine quo_any ?_ | refine rem_any ?_ | refine sh_in (by simp only [IntKind.bits]; omega) ?_) | ((with_reducible refine opsd_nil ?_); refine And.intro (by kernel_rfl) ?_) | with_reducible refine callV_snap ?_ | (with_reducible first | refine slice_old ?_ | refine app_grow ?_ | refine idx_map (by omega) ?_ | refine W_reg [(0, [0, 1]), (1, [0, 1, 7]), (2, [0, 1, 7, 18]), (3, [4, 5, 6]), (4, [0, 1, 25]), (5, [4, 5, 6]), (6, [0, 1, 9]), (7, [0, 1, 9, 29]), (8, [0, 1, 9]), (9, [0, 1, 9, 10]), (10, [0, 1, 9, 10, 50]), (11, [0, 9, 10, 11]), (12, [0, 9, 11]), (13, [0, 9, 11, 71]), (14, [4, 5, 6]), (15, [4, 5, 6]), (16, [4, 5, 6])] ?_ | refine W_drw [(0, [0, 1]), (1, [0, 1, 7]), (2, [0, 1, 7, 18]), (3, [4, 5, 6]), (4, [0, 1, 25]), (5, [4, 5, 6]), (6, [0, 1, 9]), (7, [0, 1, 9, 29]), (8, [0, 1, 9]), (9, [0, 1, 9, 10]), (10, [0, 1, 9, 10, 50]), (11, [0, 9, 10, 11]), (12, [0, 9, 11]), (13, [0, 9, 11, 71]), (14, [4, 5, 6]), (15, [4, 5, 6]), (16, [4, 5, 6])] (by kernel_rfl) ?_ | refine W_label ?_ | refine W_skip ?_ | refine W_exit ?_ | refine W_ret ?_ | refine end_at0 ?_) | (with_reducible refine And.intro (fun h => ?_) (fun h => ?_)) | (with_reducible refine And.intro (by omega) ?_)); (try simp only [go_sem, Nat.reduceAdd, Nat.reduceSub, Nat.reduceMul, Nat.reduceDiv, Nat.reduceMod, Nat.reducePow, Nat.reduceLT, Nat.reduceEqDiff, Nat.reduceBEq, Nat.reduceLeDiff, reduceIte, reduceCtorEq, Int.reduceLT, Int.reduceLE, Int.reduceEq, Int.reduceNe, Int.reduceNeg, Int.reduceAdd, Int.reduceSub, Int.reduceMul, Int.reduceToNat, Int.reducePow, Int.reduceDiv, Int.reduceMod, Nat.reduceSucc, encDS, hki, hxk, Try.ntmps15, Try.results15, rFreeDrS]))
      | fail)
    refine ⟨k + 1, [], by omega, by omega, ?_⟩
    simp [go_sem]
  · obtain rfl : k = p := by omega
    obtain ⟨b0, b1, b2, b3⟩ := hv.get k hlt
    have u0 : 0 ≤ (c[k]).2 := by omega
    have han := andNot_used (c[k]).2 _ u0 b3 m0 m1 hu
    have hx' : o / 8 = (c[k]).1 := hx.symm
    rw [hz] at han
    have hs := set_row c k hlt 0
    have hs1 : (c.set k ((c[k]).1, 0)).length = c.length := by simp
    have hs2 : ((c.set k ((c[k]).1, 0))[k]'(by rw [hs1]; exact hlt)) = ((c[k]).1, 0) := by simp
    have hk1 : ((k : Int) + 1).toNat = k + 1 := by omega
    have htl : (c.take k).length = k := by simp; omega
    have ht6 : (c.take k).length ≤ 1000000 := by omega
    have htk : List.take k (List.map encDS c) = List.map encDS (c.take k) := (List.map_take).symm
    have hdr : List.drop (k + 1) (List.map encDS c) = List.map encDS (c.drop (k + 1)) := (List.map_drop).symm
    have hdr2 : List.take (c.length - (k + 1)) (List.map encDS (c.drop (k + 1))) = List.map encDS (c.drop (k + 1)) := List.take_of_length_le (by simp)
    have hers : List.map encDS (c.take k) ++ List.map encDS (c.drop (k + 1)) = List.map encDS (c.eraseIdx k) := by rw [List.eraseIdx_eq_take_drop_succ, List.map_append]
    have hel : k + (c.length - (k + 1)) = c.length - 1 := by omega
    have hdl : (c.drop (k + 1)).length = c.length - (k + 1) := by simp
    have htt : List.take k (List.map encDS (List.take k c)) = List.map encDS (List.take k c) := List.take_of_length_le (by simp; omega)
    repeat' (first
      | (with_reducible first | refine W_seq ?_ | refine W_condT rfl ?_ | refine W_condF rfl ?_ | refine W_tf rfl (fun h => ?_) (fun h => ?_) | refine W_block ?_ | refine W_scope ?_ | refine endQ_ret ?_ | refine endQ_normal ?_)
      | ((with_reducible first | refine hK _ ?_ | refine hK _ _ ?_); clear hK K)
      | ((with_reducible refine And.intro (rowsS _) ?_))
      | ((with_reducible refine idx_map2 (by omega) ?_); simp only [go_sem, Nat.reduceAdd, Nat.reduceSub, Nat.reduceMul, Nat.reduceDiv, Nat.reduceMod, Nat.reducePow, Nat.reduceLT, Nat.reduceEqDiff, Nat.reduceBEq, Nat.reduceLeDiff, reduceIte, reduceCtorEq, Int.reduceLT, Int.reduceLE, Int.reduceEq, Int.reduceNe, Int.reduceNeg, Int.reduceAdd, Int.reduceSub, Int.reduceMul, Int.reduceToNat, Int.reducePow, Int.reduceDiv, Int.reduceMod, Nat.reduceSucc, encDS, hs])
      | ((first | (with_reducible first | refine ops_cons (fun K hK => ?_) | refine opsd_cons (fun K hK => ?_) | refine ops_nil ?_ | refine fit_i64 (by omega) ?_ | refine fit_u8 (by omega) ?_ | refine fit_u64 (by omega) ?_ | refine fit_u32 (by omega) ?_ | refine fit_any ?_ | refine quo_nn (by omega) ?_ | refine rem_nn (by omega) ?_ | refine quo_any ?_ | refine rem_any ?_ | refine sh_in (by simp only [IntKind.bits]; omega) ?_) | ((with_reducible refine opsd_nil ?_); refine And.intro (by kernel_rfl) ?_) | with_reducible refine callV_snap ?_ | ((with_reducible refine call_go rusdS rusd_ok ?_); refine ⟨(by first | exact alOk_nil _ | exact alOk_f rfl), _, _, rusd_at _ _ _ _ u0 b3 m0 m1 hu, ?_⟩) | ((with_reducible refine call_go rOwnS rOwn_ok ?_); refine ⟨(by first | exact alOk_nil _ | exact alOk_f rfl), _, _, rOwn_at _ hc, ?_⟩) | ((with_reducible refine call_go rOwnS rOwn_ok ?_); refine ⟨(by first | exact alOk_nil _ | exact alOk_f rfl), _, _, rOwn_at _ ht6, ?_⟩) | (with_reducible first | refine slice_old ?_ | refine app_grow ?_ | refine idx_map (by omega) ?_ | refine W_reg [(0, [0, 1]), (1, [0, 1, 7]), (2, [0, 1, 7, 18]), (3, [4, 5, 6]), (4, [0, 1, 25]), (5, [4, 5, 6]), (6, [0, 1, 9]), (7, [0, 1, 9, 29]), (8, [0, 1, 9]), (9, [0, 1, 9, 10]), (10, [0, 1, 9, 10, 50]), (11, [0, 9, 10, 11]), (12, [0, 9, 11]), (13, [0, 9, 11, 71]), (14, [4, 5, 6]), (15, [4, 5, 6]), (16, [4, 5, 6])] ?_ | refine W_drw [(0, [0, 1]), (1, [0, 1, 7]), (2, [0, 1, 7, 18]), (3, [4, 5, 6]), (4, [0, 1, 25]), (5, [4, 5, 6]), (6, [0, 1, 9]), (7, [0, 1, 9, 29]), (8, [0, 1, 9]), (9, [0, 1, 9, 10]), (10, [0, 1, 9, 10, 50]), (11, [0, 9, 10, 11]), (12, [0, 9, 11]), (13, [0, 9, 11, 71]), (14, [4, 5, 6]), (15, [4, 5, 6]), (16, [4, 5, 6])] (by kernel_rfl) ?_ | refine W_label ?_ | refine W_skip ?_ | refine W_exit ?_ | refine W_ret ?_ | refine end_at0 ?_) | (with_reducible refine And.intro (fun h => ?_) (fun h => ?_)) | (with_reducible refine And.intro (by omega) ?_)); (try simp only [go_sem, Nat.reduceAdd, Nat.reduceSub, Nat.reduceMul, Nat.reduceDiv, Nat.reduceMod, Nat.reducePow, Nat.reduceLT, Nat.reduceEqDiff, Nat.reduceBEq, Nat.reduceLeDiff, reduceIte, reduceCtorEq, Int.reduceLT, Int.reduceLE, Int.reduceEq, Int.reduceNe, Int.reduceNeg, Int.reduceAdd, Int.reduceSub, Int.reduceMul, Int.reduceToNat, Int.reducePow, Int.reduceDiv, Int.reduceMod, Nat.reduceSucc, encDS, hki, hx', han, hs, hs1, hs2, hk1, htl, htk, hdr, hdr2, hers, hel, hdl, htt, Nat.sub_zero, Int.one_mul, Try.ntmps15, Try.results15, rFreeDrS]))
      | fail)
    try simp only [hx']
    refine end_at [2] ?_
    simp [go_sem, Try.results15, rFreeDrS]
    exact fun _ => flatS'

def rlastS : Spec := { rel := fun args ins res outs => ∃ (c : List (Int × Int)) (r : Int), c.length ≤ 1000000 ∧ (∀ s ∈ c, 0 ≤ s.2 ∧ s.2 ≤ 255) ∧ (r = -1 ∧ Full c ∨ ∃ i : Nat, Hi c i ∧ r = i) ∧ args = [dS c] ∧ ins = [] ∧ res = iv r ∧ outs = [] }
theorem rlast_at (c : List (Int × Int)) (r : Int) (h : c.length ≤ 1000000) (hu : ∀ s ∈ c, 0 ≤ s.2 ∧ s.2 ≤ 255) (hr : r = -1 ∧ Full c ∨ ∃ i : Nat, Hi c i ∧ r = i) : rlastS.rel [dS c] [] (iv r) [] := ⟨c, r, h, hu, hr, rfl, rfl, rfl, rfl⟩
set_option maxHeartbeats 1000000 in
theorem rlast_ok : Ok Try.prog 55 rlastS := by
  refine fn_ok rlastS Try.func55 rfl rfl ?_
  rintro args ins res outs ⟨l, r, hl, hu, hr, rfl, rfl, rfl, rfl⟩
  refine ⟨by simp [Try.ntmps55], fun w0 V Bo mu0 => ?_⟩
  repeat' (first
    | (with_reducible first | refine W_seq ?_ | refine W_condT rfl ?_ | refine W_condF rfl ?_ | refine W_tf rfl (fun h => ?_) (fun h => ?_) | refine W_block ?_ | refine W_scope ?_ | refine endQ_ret ?_ | refine endQ_normal ?_)
    | ((with_reducible first | refine hK _ ?_ | refine hK _ _ ?_); clear hK K)
    | ((first | (with_reducible first | refine ops_cons (fun K hK => ?_) | refine opsd_cons (fun K hK => ?_) | refine ops_nil ?_ | refine fit_i64 (by omega) ?_ | refine fit_u8 (by omega) ?_ | refine fit_u64 (by omega) ?_ | refine fit_u32 (by omega) ?_ | refine fit_any ?_ | refine quo_nn (by omega) ?_ | refine rem_nn (by omega) ?_ | refine quo_any ?_ | refine rem_any ?_ | refine sh_in (by simp only [IntKind.bits]; omega) ?_) | ((with_reducible refine opsd_nil ?_); refine And.intro (by kernel_rfl) ?_) | with_reducible refine callV_snap ?_ | (with_reducible first | refine slice_old ?_ | refine app_grow ?_ | refine idx_map (by omega) ?_ | refine W_reg [(0, [0]), (1, [0, 3]), (2, [0, 3, 8]), (3, [0, 3]), (4, [0, 3, 16]), (5, [2]), (6, [2])] ?_ | refine W_drw [(0, [0]), (1, [0, 3]), (2, [0, 3, 8]), (3, [0, 3]), (4, [0, 3, 16]), (5, [2]), (6, [2])] (by kernel_rfl) ?_ | refine W_label ?_ | refine W_skip ?_ | refine W_exit ?_ | refine W_ret ?_ | refine end_at0 ?_) | (with_reducible refine And.intro (fun h => ?_) (fun h => ?_)) | (with_reducible refine And.intro (by omega) ?_)); (try simp only [go_sem, Nat.reduceAdd, Nat.reduceSub, Nat.reduceMul, Nat.reduceDiv, Nat.reduceMod, Nat.reducePow, Nat.reduceLT, Nat.reduceEqDiff, Nat.reduceBEq, Nat.reduceLeDiff, reduceIte, reduceCtorEq, Int.reduceLT, Int.reduceLE, Int.reduceEq, Int.reduceNe, Int.reduceNeg, Int.reduceAdd, Int.reduceSub, Int.reduceMul, Int.reduceToNat, Int.reducePow, Int.reduceDiv, Int.reduceMod, Nat.reduceSucc, Try.ntmps55, Try.results55, rlastS]))
    | fail)
  refine W_loop (fun k : Nat => ⟨[(0, dS l), (3, iv ((k : Int) - 1))], []⟩) (fun k => k ≤ l.length ∧ ∀ j (h : j < l.length), k ≤ j → (l[j]).2 = 255) (fun k => k) l.length ⟨Nat.le_refl _, fun j hj h => by omega⟩ [] ?_ ?_
  · simp [go_sem]
  rintro k ⟨hk, ha⟩
  cases k with
  | zero =>
    have hki : ¬ (0 : Int) ≤ ((0 : Nat) : Int) - 1 := by omega
    have hr1 : r = -1 := by
      rcases hr with ⟨h, _⟩ | ⟨i, ⟨hi, hn, _⟩, _⟩
      · exact h
      · exact absurd (ha i hi (Nat.zero_le _)) hn
    repeat' (first
      | (with_reducible first | refine W_seq ?_ | refine W_condT rfl ?_ | refine W_condF rfl ?_ | refine W_tf rfl (fun h => ?_) (fun h => ?_) | refine W_block ?_ | refine W_scope ?_ | refine endQ_ret ?_ | refine endQ_normal ?_)
      | ((with_reducible first | refine hK _ ?_ | refine hK _ _ ?_); clear hK K)
      | ((first | (with_reducible first | refine ops_cons (fun K hK => ?_) | refine opsd_cons (fun K hK => ?_) | refine ops_nil ?_ | refine fit_i64 (by omega) ?_ | refine fit_u8 (by omega) ?_ | refine fit_u64 (by omega) ?_ | refine fit_u32 (by omega) ?_ | refine fit_any ?_ | refine quo_nn (by omega) ?_ | refine rem_nn (by omega) ?_ | refine quo_any ?_ | refine rem_any ?_ | refine sh_in (by simp only [IntKind.bits]; omega) ?_) | ((with_reducible refine opsd_nil ?_); refine And.intro (by kernel_rfl) ?_) | with_reducible refine callV_snap ?_ | (with_reducible first | refine slice_old ?_ | refine app_grow ?_ | refine idx_map (by omega) ?_ | refine W_reg [(0, [0]), (1, [0, 3]), (2, [0, 3, 8]), (3, [0, 3]), (4, [0, 3, 16]), (5, [2]), (6, [2])] ?_ | refine W_drw [(0, [0]), (1, [0, 3]), (2, [0, 3, 8]), (3, [0, 3]), (4, [0, 3, 16]), (5, [2]), (6, [2])] (by kernel_rfl) ?_ | refine W_label ?_ | refine W_skip ?_ | refine W_exit ?_ | refine W_ret ?_ | refine end_at0 ?_) | (with_reducible refine And.intro (fun h => ?_) (fun h => ?_)) | (with_reducible refine And.intro (by omega) ?_)); (try simp only [go_sem, Nat.reduceAdd, Nat.reduceSub, Nat.reduceMul, Nat.reduceDiv, Nat.reduceMod, Nat.reducePow, Nat.reduceLT, Nat.reduceEqDiff, Nat.reduceBEq, Nat.reduceLeDiff, reduceIte, reduceCtorEq, Int.reduceLT, Int.reduceLE, Int.reduceEq, Int.reduceNe, Int.reduceNeg, Int.reduceAdd, Int.reduceSub, Int.reduceMul, Int.reduceToNat, Int.reducePow, Int.reduceDiv, Int.reduceMod, Nat.reduceSucc, hki, hr1, Try.ntmps55, Try.results55, rlastS]))
      | fail)
  | succ k =>
    have hlt : k < l.length := by omega
    have hkk : ((k + 1 : Nat) : Int) - 1 = k := by omega
    simp only [hkk]
    have hk0 : (0 : Int) ≤ k := by omega
    have hki : (k : Int) < l.length := by omega
    obtain ⟨u0, u1⟩ := hu _ (List.getElem_mem hlt)
    by_cases h2 : (l[k]).2 = 255
    · have e : ¬ low8 (l[k]).2 < 8 := by rw [h2, low_255]; omega
      repeat' (first
        | (with_reducible first | refine W_seq ?_ | refine W_condT rfl ?_ | refine W_condF rfl ?_ | refine W_tf rfl (fun h => ?_) (fun h => ?_) | refine W_block ?_ | refine W_scope ?_ | refine endQ_ret ?_ | refine endQ_normal ?_)
        | ((with_reducible first | refine hK _ ?_ | refine hK _ _ ?_); clear hK K)
        | ((first | (with_reducible first | refine ops_cons (fun K hK => ?_) | refine opsd_cons (fun K hK => ?_) | refine ops_nil ?_ | refine fit_i64 (by omega) ?_ | refine fit_u8 (by omega) ?_ | refine fit_u64 (by omega) ?_ | refine fit_u32 (by omega) ?_ | refine fit_any ?_ | refine quo_nn (by omega) ?_ | refine rem_nn (by omega) ?_ | refine quo_any ?_ | refine rem_any ?_ | refine sh_in (by simp only [IntKind.bits]; omega) ?_) | ((with_reducible refine opsd_nil ?_); refine And.intro (by kernel_rfl) ?_) | with_reducible refine callV_snap ?_ | ((with_reducible refine call_go rlowS rlow_ok ?_); refine ⟨(by first | exact alOk_nil _ | exact alOk_f rfl), _, _, rlow_at _ _ u0 u1, ?_⟩) | (with_reducible first | refine slice_old ?_ | refine app_grow ?_ | refine idx_map (by omega) ?_ | refine W_reg [(0, [0]), (1, [0, 3]), (2, [0, 3, 8]), (3, [0, 3]), (4, [0, 3, 16]), (5, [2]), (6, [2])] ?_ | refine W_drw [(0, [0]), (1, [0, 3]), (2, [0, 3, 8]), (3, [0, 3]), (4, [0, 3, 16]), (5, [2]), (6, [2])] (by kernel_rfl) ?_ | refine W_label ?_ | refine W_skip ?_ | refine W_exit ?_ | refine W_ret ?_ | refine end_at0 ?_) | (with_reducible refine And.intro (fun h => ?_) (fun h => ?_)) | (with_reducible refine And.intro (by omega) ?_)); (try simp only [go_sem, Nat.reduceAdd, Nat.reduceSub, Nat.reduceMul, Nat.reduceDiv, Nat.reduceMod, Nat.reducePow, Nat.reduceLT, Nat.reduceEqDiff, Nat.reduceBEq, Nat.reduceLeDiff, reduceIte, reduceCtorEq, Int.reduceLT, Int.reduceLE, Int.reduceEq, Int.reduceNe, Int.reduceNeg, Int.reduceAdd, Int.reduceSub, Int.reduceMul, Int.reduceToNat, Int.reducePow, Int.reduceDiv, Int.reduceMod, Nat.reduceSucc, encDS, hk0, hki, e, Try.ntmps55, Try.results55, rlastS]))
        | fail)
      refine ⟨k, [], ⟨by omega, fun j hj hjk => ?_⟩, by omega, ?_⟩
      · rcases Nat.eq_or_lt_of_le hjk with rfl | h
        · exact h2
        · exact ha j hj (by omega)
      · simp [go_sem]
    · have e := low_lt _ u0 u1 h2
      have hrk : r = k := by
        rcases hr with ⟨_, hf⟩ | ⟨i, ⟨hi, hn, hall⟩, rfl⟩
        · exact absurd (hf _ (List.getElem_mem hlt)) h2
        · rcases Nat.lt_trichotomy i k with h | rfl | h
          · exact absurd (hall k hlt h) h2
          · rfl
          · exact absurd (ha i hi (by omega)) hn
      repeat' (first
        | (with_reducible first | refine W_seq ?_ | refine W_condT rfl ?_ | refine W_condF rfl ?_ | refine W_tf rfl (fun h => ?_) (fun h => ?_) | refine W_block ?_ | refine W_scope ?_ | refine endQ_ret ?_ | refine endQ_normal ?_)
        | ((with_reducible first | refine hK _ ?_ | refine hK _ _ ?_); clear hK K)
        | ((first | (with_reducible first | refine ops_cons (fun K hK => ?_) | refine opsd_cons (fun K hK => ?_) | refine ops_nil ?_ | refine fit_i64 (by omega) ?_ | refine fit_u8 (by omega) ?_ | refine fit_u64 (by omega) ?_ | refine fit_u32 (by omega) ?_ | refine fit_any ?_ | refine quo_nn (by omega) ?_ | refine rem_nn (by omega) ?_ | refine quo_any ?_ | refine rem_any ?_ | refine sh_in (by simp only [IntKind.bits]; omega) ?_) | ((with_reducible refine opsd_nil ?_); refine And.intro (by kernel_rfl) ?_) | with_reducible refine callV_snap ?_ | ((with_reducible refine call_go rlowS rlow_ok ?_); refine ⟨(by first | exact alOk_nil _ | exact alOk_f rfl), _, _, rlow_at _ _ u0 u1, ?_⟩) | (with_reducible first | refine slice_old ?_ | refine app_grow ?_ | refine idx_map (by omega) ?_ | refine W_reg [(0, [0]), (1, [0, 3]), (2, [0, 3, 8]), (3, [0, 3]), (4, [0, 3, 16]), (5, [2]), (6, [2])] ?_ | refine W_drw [(0, [0]), (1, [0, 3]), (2, [0, 3, 8]), (3, [0, 3]), (4, [0, 3, 16]), (5, [2]), (6, [2])] (by kernel_rfl) ?_ | refine W_label ?_ | refine W_skip ?_ | refine W_exit ?_ | refine W_ret ?_ | refine end_at0 ?_) | (with_reducible refine And.intro (fun h => ?_) (fun h => ?_)) | (with_reducible refine And.intro (by omega) ?_)); (try simp only [go_sem, Nat.reduceAdd, Nat.reduceSub, Nat.reduceMul, Nat.reduceDiv, Nat.reduceMod, Nat.reducePow, Nat.reduceLT, Nat.reduceEqDiff, Nat.reduceBEq, Nat.reduceLeDiff, reduceIte, reduceCtorEq, Int.reduceLT, Int.reduceLE, Int.reduceEq, Int.reduceNe, Int.reduceNeg, Int.reduceAdd, Int.reduceSub, Int.reduceMul, Int.reduceToNat, Int.reducePow, Int.reduceDiv, Int.reduceMod, Nat.reduceSucc, encDS, hk0, hki, e, hrk, Try.ntmps55, Try.results55, rlastS]))
        | fail)
end Go.Proofs.Ytokocigmchfdfaa

/- The specification's Tidy; by the engine. -/
namespace Go.Proofs.Ytokocigmchfdfaa
open Go.RowKit
set_option maxRecDepth 100000
set_option linter.unusedSimpArgs false
set_option linter.unusedVariables false

def TidyBadS : Spec := { rel := fun args ins res outs => ∃ (c : List (Int × Int)) (e : Int), c.length ≤ 1000000 ∧ (cc c).1 = e ∧ e ≠ 0 ∧ args = [dS c] ∧ ins = [] ∧ res = .tup [.nil, .nil, iv e] ∧ outs = [] }
theorem TidyBad_at (c : List (Int × Int)) (e : Int) (h : c.length ≤ 1000000) (h1 : (cc c).1 = e) (h2 : e ≠ 0) : TidyBadS.rel [dS c] [] (.tup [.nil, .nil, iv e]) [] := ⟨c, e, h, h1, h2, rfl, rfl, rfl, rfl⟩
theorem TidyBad_ok : Ok Try.prog 16 TidyBadS := by
  refine fn_ok TidyBadS Try.func16 rfl rfl ?_
  rintro args ins res outs ⟨c, e, hc, h1, h2, rfl, rfl, rfl, rfl⟩
  refine ⟨by simp [Try.ntmps16], fun w0 V Bo mu0 => ?_⟩
  repeat' (first
    | (with_reducible first | refine W_seq ?_ | refine W_condT rfl ?_ | refine W_condF rfl ?_ | refine W_tf rfl (fun h => ?_) (fun h => ?_) | refine W_block ?_ | refine W_scope ?_ | refine endQ_ret ?_ | refine endQ_normal ?_)
    | ((with_reducible first | refine hK _ ?_ | refine hK _ _ ?_); clear hK K)
    | ((first | (with_reducible first | refine ops_cons (fun K hK => ?_) | refine opsd_cons (fun K hK => ?_) | refine ops_nil ?_ | refine fit_i64 (by omega) ?_ | refine fit_u8 (by omega) ?_ | refine fit_u64 (by omega) ?_ | refine fit_u32 (by omega) ?_ | refine fit_any ?_ | refine quo_nn (by omega) ?_ | refine rem_nn (by omega) ?_ | refine quo_any ?_ | refine rem_any ?_ | refine sh_in (by simp only [IntKind.bits]; omega) ?_) | ((with_reducible refine opsd_nil ?_); refine And.intro (by kernel_rfl) ?_) | with_reducible refine callV_snap ?_ | ((with_reducible refine call_go CheckS Check_ok ?_); refine ⟨(by first | exact alOk_nil _ | exact alOk_f rfl), _, _, Check_at _ hc, ?_⟩) | (with_reducible first | refine slice_old ?_ | refine app_grow ?_ | refine idx_map (by omega) ?_ | refine W_reg [(0, [0]), (1, [0, 5]), (2, [0, 5, 21]), (3, [2, 3, 4]), (4, [7]), (5, [7, 8]), (6, [7, 8, 9, 10]), (7, [7, 8, 9, 10, 32]), (8, [2, 3, 4]), (9, [7, 8, 10, 11, 12]), (10, [7, 8, 10, 11, 12, 13]), (11, [7, 8, 10, 11, 12, 13, 14]), (12, [7, 8, 10, 11, 12, 13, 14]), (13, [7, 8, 10, 11, 12, 14]), (14, [7, 8, 10, 11]), (15, [7, 8, 10, 95]), (16, [7, 8])] ?_ | refine W_drw [(0, [0]), (1, [0, 5]), (2, [0, 5, 21]), (3, [2, 3, 4]), (4, [7]), (5, [7, 8]), (6, [7, 8, 9, 10]), (7, [7, 8, 9, 10, 32]), (8, [2, 3, 4]), (9, [7, 8, 10, 11, 12]), (10, [7, 8, 10, 11, 12, 13]), (11, [7, 8, 10, 11, 12, 13, 14]), (12, [7, 8, 10, 11, 12, 13, 14]), (13, [7, 8, 10, 11, 12, 14]), (14, [7, 8, 10, 11]), (15, [7, 8, 10, 95]), (16, [7, 8])] (by kernel_rfl) ?_ | refine W_label ?_ | refine W_skip ?_ | refine W_exit ?_ | refine W_ret ?_ | refine end_at0 ?_) | (with_reducible refine And.intro (fun h => ?_) (fun h => ?_)) | (with_reducible refine And.intro (by omega) ?_)); (try simp only [go_sem, Nat.reduceAdd, Nat.reduceSub, Nat.reduceMul, Nat.reduceDiv, Nat.reduceMod, Nat.reducePow, Nat.reduceLT, Nat.reduceEqDiff, Nat.reduceBEq, Nat.reduceLeDiff, reduceIte, reduceCtorEq, Int.reduceLT, Int.reduceLE, Int.reduceEq, Int.reduceNe, Int.reduceNeg, Int.reduceAdd, Int.reduceSub, Int.reduceMul, Int.reduceToNat, Int.reducePow, Int.reduceDiv, Int.reduceMod, Nat.reduceSucc, h1, h2, Try.ntmps16, Try.results16, TidyBadS]))
    | fail)
abbrev rTidyBadS : Spec := TidyBadS
theorem rTidyBad_at (c : List (Int × Int)) (e : Int) (h : c.length ≤ 1000000) (h1 : (cc c).1 = e) (h2 : e ≠ 0) : rTidyBadS.rel [dS c] [] (.tup [.nil, .nil, iv e]) [] := TidyBad_at c e h h1 h2
theorem rTidyBad_ok : Ok Try.prog 17 rTidyBadS := by
  refine fn_ok rTidyBadS Try.func17 rfl rfl ?_
  rintro args ins res outs ⟨c, e, hc, h1, h2, rfl, rfl, rfl, rfl⟩
  refine ⟨by simp [Try.ntmps17], fun w0 V Bo mu0 => ?_⟩
  repeat' (first
    | (with_reducible first | refine W_seq ?_ | refine W_condT rfl ?_ | refine W_condF rfl ?_ | refine W_tf rfl (fun h => ?_) (fun h => ?_) | refine W_block ?_ | refine W_scope ?_ | refine endQ_ret ?_ | refine endQ_normal ?_)
    | ((with_reducible first | refine hK _ ?_ | refine hK _ _ ?_); clear hK K)
    | ((first | (with_reducible first | refine ops_cons (fun K hK => ?_) | refine opsd_cons (fun K hK => ?_) | refine ops_nil ?_ | refine fit_i64 (by omega) ?_ | refine fit_u8 (by omega) ?_ | refine fit_u64 (by omega) ?_ | refine fit_u32 (by omega) ?_ | refine fit_any ?_ | refine quo_nn (by omega) ?_ | refine rem_nn (by omega) ?_ | refine quo_any ?_ | refine rem_any ?_ | refine sh_in (by simp only [IntKind.bits]; omega) ?_) | ((with_reducible refine opsd_nil ?_); refine And.intro (by kernel_rfl) ?_) | with_reducible refine callV_snap ?_ | ((with_reducible refine call_go rCheckS rCheck_ok ?_); refine ⟨(by first | exact alOk_nil _ | exact alOk_f rfl), _, _, rCheck_at _ hc, ?_⟩) | (with_reducible first | refine slice_old ?_ | refine app_grow ?_ | refine idx_map (by omega) ?_ | refine W_reg [(0, [0]), (1, [0, 5]), (2, [0, 5, 22]), (3, [2, 3, 4]), (4, [7]), (5, [7, 8]), (6, [7, 8, 30]), (7, [7, 8, 9]), (8, [7, 8, 9, 10]), (9, [7, 8, 9, 10, 39]), (10, [7, 8, 9, 10]), (11, [7, 8, 11]), (12, [8, 11, 12, 13]), (13, [7, 8, 11, 13]), (14, [7, 8]), (15, [2, 3, 4])] ?_ | refine W_drw [(0, [0]), (1, [0, 5]), (2, [0, 5, 22]), (3, [2, 3, 4]), (4, [7]), (5, [7, 8]), (6, [7, 8, 30]), (7, [7, 8, 9]), (8, [7, 8, 9, 10]), (9, [7, 8, 9, 10, 39]), (10, [7, 8, 9, 10]), (11, [7, 8, 11]), (12, [8, 11, 12, 13]), (13, [7, 8, 11, 13]), (14, [7, 8]), (15, [2, 3, 4])] (by kernel_rfl) ?_ | refine W_label ?_ | refine W_skip ?_ | refine W_exit ?_ | refine W_ret ?_ | refine end_at0 ?_) | (with_reducible refine And.intro (fun h => ?_) (fun h => ?_)) | (with_reducible refine And.intro (by omega) ?_)); (try simp only [go_sem, Nat.reduceAdd, Nat.reduceSub, Nat.reduceMul, Nat.reduceDiv, Nat.reduceMod, Nat.reducePow, Nat.reduceLT, Nat.reduceEqDiff, Nat.reduceBEq, Nat.reduceLeDiff, reduceIte, reduceCtorEq, Int.reduceLT, Int.reduceLE, Int.reduceEq, Int.reduceNe, Int.reduceNeg, Int.reduceAdd, Int.reduceSub, Int.reduceMul, Int.reduceToNat, Int.reducePow, Int.reduceDiv, Int.reduceMod, Nat.reduceSucc, h1, h2, Try.ntmps17, Try.results17, rTidyBadS]))
    | fail)

theorem usd_above (u p : Int) (h0 : 0 ≤ u) (h1 : u ≤ 255) (p0 : 0 ≤ p) (p1 : p ≤ 7) (h : ln u - 1 < p) : usd u p = false := by
  have := of_fin8 (Q := fun u p => ln u - 1 < p → usd u p = false) (by decide +kernel) u p h0 h1 p0 p1
  exact this h
/-- freeing the last object of slab j behind taking one of slab i -/
theorem tk_set {d : List (Int × Int)} {i j : Nat} (hi : i < d.length) (hj : j < d.length) (hij : i < j) :
    (tk d i).set j ((d[j]).1, lastU d j) = mvd d i j := by
  simp only [tk, hi, dif_pos, mvd, gt_lt hi, gt_lt hj]
  exact List.set_comm _ _ (by omega)
theorem tk_erase {d : List (Int × Int)} {i j : Nat} (hi : i < d.length) (hj : j < d.length) (hij : i < j) : (tk d i).eraseIdx j = (mvd d i j).eraseIdx j := by
  rw [← tk_set hi hj hij]
  simp only [List.eraseIdx_eq_take_drop_succ, List.take_set_of_le (Nat.le_refl j), List.drop_set_of_lt (Nat.lt_succ_self j)]
abbrev rTidyS : Spec := TidyS
theorem rTidy_at (c c' ms : List (Int × Int)) (h : c.length ≤ 1000000) (hv : Val c) (hr : TRun c c' ms) (hm : ms.length ≤ 1000000) :
    rTidyS.rel [dS c] [] (.tup [.row 0 2 0 c'.length, .row 1 2 0 ms.length, iv 0]) [.rows 38 2 (c'.map encDS), .rows 57 2 (ms.map encDM)] := Tidy_at c c' ms h hv hr hm
set_option maxHeartbeats 4000000 in
theorem rTidy_ok : Ok Try.prog 17 rTidyS := by
  refine fn_ok rTidyS Try.func17 rfl rfl ?_
  rintro args ins res outs ⟨c, c', ms, hc, hv, hrun, hml, rfl, rfl, rfl, rfl⟩
  refine ⟨by simp [Try.ntmps17], fun w0 V Bo mu0 => ?_⟩
  have e0 := val_cc hv
  repeat' (first
    | (with_reducible first | refine W_seq ?_ | refine W_condT rfl ?_ | refine W_condF rfl ?_ | refine W_tf rfl (fun h => ?_) (fun h => ?_) | refine W_block ?_ | refine W_scope ?_ | refine endQ_ret ?_ | refine endQ_normal ?_)
    | ((with_reducible first | refine hK _ ?_ | refine hK _ _ ?_); clear hK K)
    | ((first | (with_reducible first | refine ops_cons (fun K hK => ?_) | refine opsd_cons (fun K hK => ?_) | refine ops_nil ?_ | refine fit_i64 (by omega) ?_ | refine fit_u8 (by omega) ?_ | refine fit_u64 (by omega) ?_ | refine fit_u32 (by omega) ?_ | refine fit_any ?_ | refine quo_nn (by omega) ?_ | refine rem_nn (by omega) ?_ | refine quo_any ?_ | refine rem_any ?_ | refine sh_in (by simp only [IntKind.bits]; omega) ?_) | ((with_reducible refine opsd_nil ?_); refine And.intro (by kernel_rfl) ?_) | with_reducible refine callV_snap ?_ | ((with_reducible refine call_go rCheckS rCheck_ok ?_); refine ⟨(by first | exact alOk_nil _ | exact alOk_f rfl), _, _, rCheck_at _ hc, ?_⟩) | ((with_reducible refine call_go rOwnS rOwn_ok ?_); refine ⟨(by first | exact alOk_nil _ | exact alOk_f rfl), _, _, rOwn_at _ hc, ?_⟩) | (with_reducible first | refine slice_old ?_ | refine app_grow ?_ | refine idx_map (by omega) ?_ | refine W_reg [(0, [0]), (1, [0, 5]), (2, [0, 5, 22]), (3, [2, 3, 4]), (4, [7]), (5, [7, 8]), (6, [7, 8, 30]), (7, [7, 8, 9]), (8, [7, 8, 9, 10]), (9, [7, 8, 9, 10, 39]), (10, [7, 8, 9, 10]), (11, [7, 8, 11]), (12, [8, 11, 12, 13]), (13, [7, 8, 11, 13]), (14, [7, 8]), (15, [2, 3, 4])] ?_ | refine W_drw [(0, [0]), (1, [0, 5]), (2, [0, 5, 22]), (3, [2, 3, 4]), (4, [7]), (5, [7, 8]), (6, [7, 8, 30]), (7, [7, 8, 9]), (8, [7, 8, 9, 10]), (9, [7, 8, 9, 10, 39]), (10, [7, 8, 9, 10]), (11, [7, 8, 11]), (12, [8, 11, 12, 13]), (13, [7, 8, 11, 13]), (14, [7, 8]), (15, [2, 3, 4])] (by kernel_rfl) ?_ | refine W_label ?_ | refine W_skip ?_ | refine W_exit ?_ | refine W_ret ?_ | refine end_at0 ?_) | (with_reducible refine And.intro (fun h => ?_) (fun h => ?_)) | (with_reducible refine And.intro (by omega) ?_)); (try simp only [go_sem, Nat.reduceAdd, Nat.reduceSub, Nat.reduceMul, Nat.reduceDiv, Nat.reduceMod, Nat.reducePow, Nat.reduceLT, Nat.reduceEqDiff, Nat.reduceBEq, Nat.reduceLeDiff, reduceIte, reduceCtorEq, Int.reduceLT, Int.reduceLE, Int.reduceEq, Int.reduceNe, Int.reduceNeg, Int.reduceAdd, Int.reduceSub, Int.reduceMul, Int.reduceToNat, Int.reducePow, Int.reduceDiv, Int.reduceMod, Nat.reduceSucc, e0, Try.ntmps17, Try.results17, rTidyS]))
    | fail)
  refine W_adopt 8 57 2 (by decide) (by simp [go_sem]) ?_
  refine W_loop (fun x : List (Int × Int) × List (Int × Int) × List (Int × Int) => ⟨[(7, .row 0 2 0 x.1.length), (8, .row 1 2 0 x.2.1.length)], [some (.rows 38 2 (x.1.map encDS)), some (.rows 57 2 (x.2.1.map encDM))]⟩)
    (fun x => x.1.length ≤ 1000000 ∧ Val x.1 ∧ TRun x.1 c' x.2.2 ∧ x.2.1 ++ x.2.2 = ms) (fun x => x.2.2.length) (c, [], ms) ⟨hc, hv, hrun, rfl⟩ [0, 1] ?_ ?_
  · simp [go_sem]
  rintro ⟨d, done, rest⟩ ⟨hd, hvd, hr, hms⟩
  dsimp only at hd hvd hr hms
  cases hr with
  | full hf =>
    rw [List.append_nil] at hms
    repeat' (first
      | (with_reducible first | refine W_seq ?_ | refine W_condT rfl ?_ | refine W_condF rfl ?_ | refine W_tf rfl (fun h => ?_) (fun h => ?_) | refine W_block ?_ | refine W_scope ?_ | refine endQ_ret ?_ | refine endQ_normal ?_)
      | ((with_reducible first | refine hK _ ?_ | refine hK _ _ ?_); clear hK K)
      | ((first | (with_reducible first | refine ops_cons (fun K hK => ?_) | refine opsd_cons (fun K hK => ?_) | refine ops_nil ?_ | refine fit_i64 (by omega) ?_ | refine fit_u8 (by omega) ?_ | refine fit_u64 (by omega) ?_ | refine fit_u32 (by omega) ?_ | refine fit_any ?_ | refine quo_nn (by omega) ?_ | refine rem_nn (by omega) ?_ | refine quo_any ?_ | refine rem_any ?_ | refine sh_in (by simp only [IntKind.bits]; omega) ?_) | ((with_reducible refine opsd_nil ?_); refine And.intro (by kernel_rfl) ?_) | with_reducible refine callV_snap ?_ | ((with_reducible refine call_go rpartS rpart_ok ?_); refine ⟨(by first | exact alOk_nil _ | exact alOk_f rfl), _, _, rpart_at _ _ hd hvd.u (.inl ⟨rfl, hf⟩), ?_⟩) | ((with_reducible refine call_go rlastS rlast_ok ?_); refine ⟨(by first | exact alOk_nil _ | exact alOk_f rfl), _, _, rlast_at _ _ hd hvd.u (.inl ⟨rfl, hf⟩), ?_⟩) | (with_reducible first | refine slice_old ?_ | refine app_grow ?_ | refine idx_map (by omega) ?_ | refine W_reg [(0, [0]), (1, [0, 5]), (2, [0, 5, 22]), (3, [2, 3, 4]), (4, [7]), (5, [7, 8]), (6, [7, 8, 30]), (7, [7, 8, 9]), (8, [7, 8, 9, 10]), (9, [7, 8, 9, 10, 39]), (10, [7, 8, 9, 10]), (11, [7, 8, 11]), (12, [8, 11, 12, 13]), (13, [7, 8, 11, 13]), (14, [7, 8]), (15, [2, 3, 4])] ?_ | refine W_drw [(0, [0]), (1, [0, 5]), (2, [0, 5, 22]), (3, [2, 3, 4]), (4, [7]), (5, [7, 8]), (6, [7, 8, 30]), (7, [7, 8, 9]), (8, [7, 8, 9, 10]), (9, [7, 8, 9, 10, 39]), (10, [7, 8, 9, 10]), (11, [7, 8, 11]), (12, [8, 11, 12, 13]), (13, [7, 8, 11, 13]), (14, [7, 8]), (15, [2, 3, 4])] (by kernel_rfl) ?_ | refine W_label ?_ | refine W_skip ?_ | refine W_exit ?_ | refine W_ret ?_ | refine end_at0 ?_) | (with_reducible refine And.intro (fun h => ?_) (fun h => ?_)) | (with_reducible refine And.intro (by omega) ?_)); (try simp only [go_sem, Nat.reduceAdd, Nat.reduceSub, Nat.reduceMul, Nat.reduceDiv, Nat.reduceMod, Nat.reducePow, Nat.reduceLT, Nat.reduceEqDiff, Nat.reduceBEq, Nat.reduceLeDiff, reduceIte, reduceCtorEq, Int.reduceLT, Int.reduceLE, Int.reduceEq, Int.reduceNe, Int.reduceNeg, Int.reduceAdd, Int.reduceSub, Int.reduceMul, Int.reduceToNat, Int.reducePow, Int.reduceDiv, Int.reduceMod, Nat.reduceSucc, Try.ntmps17, Try.results17, rTidyS]))
      | fail)
    subst hms
    refine end_at [0, 1] ?_
    simp [go_sem, Try.results17, rTidyS]
    exact fun _ => ⟨flatS', flatM'⟩
  | one hlo hhi =>
    rename_i i
    rw [List.append_nil] at hms
    repeat' (first
      | (with_reducible first | refine W_seq ?_ | refine W_condT rfl ?_ | refine W_condF rfl ?_ | refine W_tf rfl (fun h => ?_) (fun h => ?_) | refine W_block ?_ | refine W_scope ?_ | refine endQ_ret ?_ | refine endQ_normal ?_)
      | ((with_reducible first | refine hK _ ?_ | refine hK _ _ ?_); clear hK K)
      | ((first | (with_reducible first | refine ops_cons (fun K hK => ?_) | refine opsd_cons (fun K hK => ?_) | refine ops_nil ?_ | refine fit_i64 (by omega) ?_ | refine fit_u8 (by omega) ?_ | refine fit_u64 (by omega) ?_ | refine fit_u32 (by omega) ?_ | refine fit_any ?_ | refine quo_nn (by omega) ?_ | refine rem_nn (by omega) ?_ | refine quo_any ?_ | refine rem_any ?_ | refine sh_in (by simp only [IntKind.bits]; omega) ?_) | ((with_reducible refine opsd_nil ?_); refine And.intro (by kernel_rfl) ?_) | with_reducible refine callV_snap ?_ | ((with_reducible refine call_go rpartS rpart_ok ?_); refine ⟨(by first | exact alOk_nil _ | exact alOk_f rfl), _, _, rpart_at _ _ hd hvd.u (.inr ⟨i, hlo, rfl⟩), ?_⟩) | ((with_reducible refine call_go rlastS rlast_ok ?_); refine ⟨(by first | exact alOk_nil _ | exact alOk_f rfl), _, _, rlast_at _ _ hd hvd.u (.inr ⟨i, hhi, rfl⟩), ?_⟩) | (with_reducible first | refine slice_old ?_ | refine app_grow ?_ | refine idx_map (by omega) ?_ | refine W_reg [(0, [0]), (1, [0, 5]), (2, [0, 5, 22]), (3, [2, 3, 4]), (4, [7]), (5, [7, 8]), (6, [7, 8, 30]), (7, [7, 8, 9]), (8, [7, 8, 9, 10]), (9, [7, 8, 9, 10, 39]), (10, [7, 8, 9, 10]), (11, [7, 8, 11]), (12, [8, 11, 12, 13]), (13, [7, 8, 11, 13]), (14, [7, 8]), (15, [2, 3, 4])] ?_ | refine W_drw [(0, [0]), (1, [0, 5]), (2, [0, 5, 22]), (3, [2, 3, 4]), (4, [7]), (5, [7, 8]), (6, [7, 8, 30]), (7, [7, 8, 9]), (8, [7, 8, 9, 10]), (9, [7, 8, 9, 10, 39]), (10, [7, 8, 9, 10]), (11, [7, 8, 11]), (12, [8, 11, 12, 13]), (13, [7, 8, 11, 13]), (14, [7, 8]), (15, [2, 3, 4])] (by kernel_rfl) ?_ | refine W_label ?_ | refine W_skip ?_ | refine W_exit ?_ | refine W_ret ?_ | refine end_at0 ?_) | (with_reducible refine And.intro (fun h => ?_) (fun h => ?_)) | (with_reducible refine And.intro (by omega) ?_)); (try simp only [go_sem, Nat.reduceAdd, Nat.reduceSub, Nat.reduceMul, Nat.reduceDiv, Nat.reduceMod, Nat.reducePow, Nat.reduceLT, Nat.reduceEqDiff, Nat.reduceBEq, Nat.reduceLeDiff, reduceIte, reduceCtorEq, Int.reduceLT, Int.reduceLE, Int.reduceEq, Int.reduceNe, Int.reduceNeg, Int.reduceAdd, Int.reduceSub, Int.reduceMul, Int.reduceToNat, Int.reducePow, Int.reduceDiv, Int.reduceMod, Nat.reduceSucc, Try.ntmps17, Try.results17, rTidyS]))
      | fail)
    subst hms
    refine end_at [0, 1] ?_
    simp [go_sem, Try.results17, rTidyS]
    exact fun _ => ⟨flatS', flatM'⟩
  | step hlo hhi hij hr' =>
    rename_i ms' i j
    have hij' : ¬ (i : Int) = j := by omega
    have hi := hlo.1
    have hj := hhi.1
    have hii : (i : Int) < d.length := by omega
    have hji : (j : Int) < d.length := by omega
    obtain ⟨i0, i1, i2, i3⟩ := hvd.get i hi
    obtain ⟨j0, j1, j2, j3⟩ := hvd.get j hj
    obtain ⟨l0, l1, l2⟩ := ln_bd (d[j]).2 j2 j3
    have u0 : 0 ≤ (d[j]).2 := by omega
    repeat' (first
      | (with_reducible first | refine W_seq ?_ | refine W_condT rfl ?_ | refine W_condF rfl ?_ | refine W_tf rfl (fun h => ?_) (fun h => ?_) | refine W_block ?_ | refine W_scope ?_ | refine endQ_ret ?_ | refine endQ_normal ?_)
      | ((with_reducible first | refine hK _ ?_ | refine hK _ _ ?_); clear hK K)
      | ((first | (with_reducible first | refine ops_cons (fun K hK => ?_) | refine opsd_cons (fun K hK => ?_) | refine ops_nil ?_ | refine fit_i64 (by omega) ?_ | refine fit_u8 (by omega) ?_ | refine fit_u64 (by omega) ?_ | refine fit_u32 (by omega) ?_ | refine fit_any ?_ | refine quo_nn (by omega) ?_ | refine rem_nn (by omega) ?_ | refine quo_any ?_ | refine rem_any ?_ | refine sh_in (by simp only [IntKind.bits]; omega) ?_) | ((with_reducible refine opsd_nil ?_); refine And.intro (by kernel_rfl) ?_) | with_reducible refine callV_snap ?_ | ((with_reducible refine call_go rpartS rpart_ok ?_); refine ⟨(by first | exact alOk_nil _ | exact alOk_f rfl), _, _, rpart_at _ _ hd hvd.u (.inr ⟨i, hlo, rfl⟩), ?_⟩) | ((with_reducible refine call_go rlastS rlast_ok ?_); refine ⟨(by first | exact alOk_nil _ | exact alOk_f rfl), _, _, rlast_at _ _ hd hvd.u (.inr ⟨j, hhi, rfl⟩), ?_⟩) | (with_reducible first | refine slice_old ?_ | refine app_grow ?_ | refine idx_map (by omega) ?_ | refine W_reg [(0, [0]), (1, [0, 5]), (2, [0, 5, 22]), (3, [2, 3, 4]), (4, [7]), (5, [7, 8]), (6, [7, 8, 30]), (7, [7, 8, 9]), (8, [7, 8, 9, 10]), (9, [7, 8, 9, 10, 39]), (10, [7, 8, 9, 10]), (11, [7, 8, 11]), (12, [8, 11, 12, 13]), (13, [7, 8, 11, 13]), (14, [7, 8]), (15, [2, 3, 4])] ?_ | refine W_drw [(0, [0]), (1, [0, 5]), (2, [0, 5, 22]), (3, [2, 3, 4]), (4, [7]), (5, [7, 8]), (6, [7, 8, 30]), (7, [7, 8, 9]), (8, [7, 8, 9, 10]), (9, [7, 8, 9, 10, 39]), (10, [7, 8, 9, 10]), (11, [7, 8, 11]), (12, [8, 11, 12, 13]), (13, [7, 8, 11, 13]), (14, [7, 8]), (15, [2, 3, 4])] (by kernel_rfl) ?_ | refine W_label ?_ | refine W_skip ?_ | refine W_exit ?_ | refine W_ret ?_ | refine end_at0 ?_) | (with_reducible refine And.intro (fun h => ?_) (fun h => ?_)) | (with_reducible refine And.intro (by omega) ?_)); (try simp only [go_sem, Nat.reduceAdd, Nat.reduceSub, Nat.reduceMul, Nat.reduceDiv, Nat.reduceMod, Nat.reducePow, Nat.reduceLT, Nat.reduceEqDiff, Nat.reduceBEq, Nat.reduceLeDiff, reduceIte, reduceCtorEq, Int.reduceLT, Int.reduceLE, Int.reduceEq, Int.reduceNe, Int.reduceNeg, Int.reduceAdd, Int.reduceSub, Int.reduceMul, Int.reduceToNat, Int.reducePow, Int.reduceDiv, Int.reduceMod, Nat.reduceSucc, encDS, hij', hii, hji, Try.ntmps17, Try.results17, rTidyS]))
      | fail)
    refine W_loop (fun k : Nat => ⟨[(7, .row 0 2 0 d.length), (8, .row 1 2 0 done.length), (9, .ptr 2 0), (10, iv k)], [some (.rows 38 2 (d.map encDS)), some (.rows 57 2 (done.map encDM)), some (.box 38 [iv (d[j]).1, uv (d[j]).2])]⟩) (fun k => k ≤ 7 ∧ ln (d[j]).2 - 1 ≤ k) (fun k => k) 7 ⟨Nat.le_refl _, l1⟩ [0, 1, 2] ?_ ?_
    · simp [go_sem]
    rintro k ⟨hk7, hkl⟩
    have k0 : (0 : Int) ≤ k := by omega
    have k7 : (k : Int) ≤ 7 := by omega
    by_cases hke : ln (d[j]).2 - 1 < k
    · have hu := usd_above (d[j]).2 k u0 j3 k0 k7 hke
      have hk1 : ((k - 1 : Nat) : Int) = (k : Int) - 1 := by omega
      repeat' (first
        | (with_reducible first | refine W_seq ?_ | refine W_condT rfl ?_ | refine W_condF rfl ?_ | refine W_tf rfl (fun h => ?_) (fun h => ?_) | refine W_block ?_ | refine W_scope ?_ | refine endQ_ret ?_ | refine endQ_normal ?_)
        | ((with_reducible first | refine hK _ ?_ | refine hK _ _ ?_); clear hK K)
        | ((first | (with_reducible first | refine ops_cons (fun K hK => ?_) | refine opsd_cons (fun K hK => ?_) | refine ops_nil ?_ | refine fit_i64 (by omega) ?_ | refine fit_u8 (by omega) ?_ | refine fit_u64 (by omega) ?_ | refine fit_u32 (by omega) ?_ | refine fit_any ?_ | refine quo_nn (by omega) ?_ | refine rem_nn (by omega) ?_ | refine quo_any ?_ | refine rem_any ?_ | refine sh_in (by simp only [IntKind.bits]; omega) ?_) | ((with_reducible refine opsd_nil ?_); refine And.intro (by kernel_rfl) ?_) | with_reducible refine callV_snap ?_ | ((with_reducible refine call_go rusdS rusd_ok ?_); refine ⟨(by first | exact alOk_nil _ | exact alOk_f rfl), _, _, rusd_at _ _ _ _ u0 j3 k0 k7 hu, ?_⟩) | (with_reducible first | refine slice_old ?_ | refine app_grow ?_ | refine idx_map (by omega) ?_ | refine W_reg [(0, [0]), (1, [0, 5]), (2, [0, 5, 22]), (3, [2, 3, 4]), (4, [7]), (5, [7, 8]), (6, [7, 8, 30]), (7, [7, 8, 9]), (8, [7, 8, 9, 10]), (9, [7, 8, 9, 10, 39]), (10, [7, 8, 9, 10]), (11, [7, 8, 11]), (12, [8, 11, 12, 13]), (13, [7, 8, 11, 13]), (14, [7, 8]), (15, [2, 3, 4])] ?_ | refine W_drw [(0, [0]), (1, [0, 5]), (2, [0, 5, 22]), (3, [2, 3, 4]), (4, [7]), (5, [7, 8]), (6, [7, 8, 30]), (7, [7, 8, 9]), (8, [7, 8, 9, 10]), (9, [7, 8, 9, 10, 39]), (10, [7, 8, 9, 10]), (11, [7, 8, 11]), (12, [8, 11, 12, 13]), (13, [7, 8, 11, 13]), (14, [7, 8]), (15, [2, 3, 4])] (by kernel_rfl) ?_ | refine W_label ?_ | refine W_skip ?_ | refine W_exit ?_ | refine W_ret ?_ | refine end_at0 ?_) | (with_reducible refine And.intro (fun h => ?_) (fun h => ?_)) | (with_reducible refine And.intro (by omega) ?_)); (try simp only [go_sem, Nat.reduceAdd, Nat.reduceSub, Nat.reduceMul, Nat.reduceDiv, Nat.reduceMod, Nat.reducePow, Nat.reduceLT, Nat.reduceEqDiff, Nat.reduceBEq, Nat.reduceLeDiff, reduceIte, reduceCtorEq, Int.reduceLT, Int.reduceLE, Int.reduceEq, Int.reduceNe, Int.reduceNeg, Int.reduceAdd, Int.reduceSub, Int.reduceMul, Int.reduceToNat, Int.reducePow, Int.reduceDiv, Int.reduceMod, Nat.reduceSucc, Try.ntmps17, Try.results17, rTidyS]))
        | fail)
      refine ⟨k - 1, [0, 1, 2], ⟨by omega, by omega⟩, by omega, ?_⟩
      simp [go_sem, hk1]
    · have hk : ln (d[j]).2 - 1 = k := by omega
      rw [hk] at l2
      have hmul : 8 * (d[j]).1 = (d[j]).1 * 8 := Int.mul_comm _ _
      have hv2 := val_tk hvd hlo
      have hlen : (tk d i).length = d.length := by unfold tk; split <;> simp
      have hj2 : j < (tk d i).length := by omega
      have hg : (tk d i)[j] = d[j] := by simp [tk, hi, List.getElem_set, show i ≠ j by omega]
      have ht : List.take d.length (List.map encDS (tk d i)) = List.map encDS (tk d i) := List.take_of_length_le (by simp [hlen])
      have hl7 : (tk d i).length ≤ 1000000 := by omega
      have o8 : ((d[j]).1 * 8 + (k : Int)) / 8 = (d[j]).1 := by omega
      have o9 : ((d[j]).1 * 8 + (k : Int)) % 8 = k := by omega
      have o0 : 0 ≤ (d[j]).1 * 8 + (k : Int) := by omega
      have o1 : (d[j]).1 * 8 + (k : Int) < 2048 := by omega
      have q1 : ((tk d i)[j]).1 = ((d[j]).1 * 8 + (k : Int)) / 8 := by rw [hg, o8]
      have q2 : usd ((tk d i)[j]).2 (((d[j]).1 * 8 + (k : Int)) % 8) = true := by rw [hg, o9]; exact l2
      have hlU : ((tk d i)[j]).2 - 2 ^ (((d[j]).1 * 8 + (k : Int)) % 8).toNat = lastU d j := by rw [hg, o9]; simp only [lastU, gt_lt hj, hk]
      have hset : (tk d i).set j (((tk d i)[j]).1, ((tk d i)[j]).2 - 2 ^ (((d[j]).1 * 8 + (k : Int)) % 8).toNat) = mvd d i j := by rw [hlU, hg]; exact tk_set hi hj hij
      have hers := tk_erase hi hj hij
      have g5 : (mvd d i j).length = d.length := by simp [mvd]
      have g7 : List.map encDM done ++ [[.int .i64 ((d[j]).1 * 8 + (k : Int)), .int .i64 ((d[i]).1 * 8 + plc (d[i]).2)]] = (done ++ [mv d i j]).map encDM := by simp [mv, gt_lt hi, gt_lt hj, encDM, hk]
      have hdl : done.length ≤ 1000000 := by rw [← hms] at hml; simp at hml; omega
      have hnl := nxt_len d i j
      have hvn := val_nxt hvd hlo hj hij
      obtain ⟨pp0, pp1⟩ := plc_bd (d[i]).2 (by omega) (by have := hlo.2.1; omega)
      by_cases hz : lastU d j = 0
      · have hnx : (mvd d i j).eraseIdx j = nxt d i j := by simp [nxt, hz]
        have hnn : (nxt d i j).length = d.length - 1 := by rw [← hnx, List.length_eraseIdx, if_pos (by omega), g5]
        have q3 := hlU.trans hz
        repeat' (first
          | (with_reducible first | refine W_seq ?_ | refine W_condT rfl ?_ | refine W_condF rfl ?_ | refine W_tf rfl (fun h => ?_) (fun h => ?_) | refine W_block ?_ | refine W_scope ?_ | refine endQ_ret ?_ | refine endQ_normal ?_)
          | ((with_reducible first | refine hK _ ?_ | refine hK _ _ ?_); clear hK K)
          | ((first | (with_reducible first | refine ops_cons (fun K hK => ?_) | refine opsd_cons (fun K hK => ?_) | refine ops_nil ?_ | refine fit_i64 (by omega) ?_ | refine fit_u8 (by omega) ?_ | refine fit_u64 (by omega) ?_ | refine fit_u32 (by omega) ?_ | refine fit_any ?_ | refine quo_nn (by omega) ?_ | refine rem_nn (by omega) ?_ | refine quo_any ?_ | refine rem_any ?_ | refine sh_in (by simp only [IntKind.bits]; omega) ?_) | ((with_reducible refine opsd_nil ?_); refine And.intro (by kernel_rfl) ?_) | with_reducible refine callV_snap ?_ | ((with_reducible refine call_go rusdS rusd_ok ?_); refine ⟨(by first | exact alOk_nil _ | exact alOk_f rfl), _, _, rusd_at _ _ _ _ u0 j3 k0 k7 l2, ?_⟩) | ((with_reducible refine call_go rTakePtS rTakePt_ok ?_); refine ⟨(by first | exact alOk_nil _ | exact alOk_f rfl), _, _, rTakePt_at d (-1) i hi hd hvd (by decide) (by decide) hlo, ?_⟩) | ((with_reducible refine call_go rFreeDrS rFreeDr_ok ?_); refine ⟨(by first | exact alOk_nil _ | exact alOk_f rfl), _, _, rFreeDr_at (tk d i) _ j hj2 hl7 hv2 o0 o1 q1 q2 q3, ?_⟩) | (with_reducible first | refine slice_old ?_ | refine app_grow ?_ | refine idx_map (by omega) ?_ | refine W_reg [(0, [0]), (1, [0, 5]), (2, [0, 5, 22]), (3, [2, 3, 4]), (4, [7]), (5, [7, 8]), (6, [7, 8, 30]), (7, [7, 8, 9]), (8, [7, 8, 9, 10]), (9, [7, 8, 9, 10, 39]), (10, [7, 8, 9, 10]), (11, [7, 8, 11]), (12, [8, 11, 12, 13]), (13, [7, 8, 11, 13]), (14, [7, 8]), (15, [2, 3, 4])] ?_ | refine W_drw [(0, [0]), (1, [0, 5]), (2, [0, 5, 22]), (3, [2, 3, 4]), (4, [7]), (5, [7, 8]), (6, [7, 8, 30]), (7, [7, 8, 9]), (8, [7, 8, 9, 10]), (9, [7, 8, 9, 10, 39]), (10, [7, 8, 9, 10]), (11, [7, 8, 11]), (12, [8, 11, 12, 13]), (13, [7, 8, 11, 13]), (14, [7, 8]), (15, [2, 3, 4])] (by kernel_rfl) ?_ | refine W_label ?_ | refine W_skip ?_ | refine W_exit ?_ | refine W_ret ?_ | refine end_at0 ?_) | (with_reducible refine And.intro (fun h => ?_) (fun h => ?_)) | (with_reducible refine And.intro (by omega) ?_)); (try simp only [go_sem, Nat.reduceAdd, Nat.reduceSub, Nat.reduceMul, Nat.reduceDiv, Nat.reduceMod, Nat.reducePow, Nat.reduceLT, Nat.reduceEqDiff, Nat.reduceBEq, Nat.reduceLeDiff, reduceIte, reduceCtorEq, Int.reduceLT, Int.reduceLE, Int.reduceEq, Int.reduceNe, Int.reduceNeg, Int.reduceAdd, Int.reduceSub, Int.reduceMul, Int.reduceToNat, Int.reducePow, Int.reduceDiv, Int.reduceMod, Nat.reduceSucc, hmul, hlen, ht, hers, hnx, g7, Try.ntmps17, Try.results17, rTidyS]))
          | fail)
        refine ⟨(nxt d i j, done ++ [mv d i j], ms'), [4, 6], ⟨by dsimp only; omega, hvn, hr', by simpa using hms⟩, by simp, ?_⟩
        simp [go_sem, hnn]
      · have hnx : nxt d i j = mvd d i j := by simp [nxt, hz]
        have q3 : ((tk d i)[j]).2 - 2 ^ (((d[j]).1 * 8 + (k : Int)) % 8).toNat ≠ 0 := by rw [hlU]; exact hz
        repeat' (first
          | (with_reducible first | refine W_seq ?_ | refine W_condT rfl ?_ | refine W_condF rfl ?_ | refine W_tf rfl (fun h => ?_) (fun h => ?_) | refine W_block ?_ | refine W_scope ?_ | refine endQ_ret ?_ | refine endQ_normal ?_)
          | ((with_reducible first | refine hK _ ?_ | refine hK _ _ ?_); clear hK K)
          | ((first | (with_reducible first | refine ops_cons (fun K hK => ?_) | refine opsd_cons (fun K hK => ?_) | refine ops_nil ?_ | refine fit_i64 (by omega) ?_ | refine fit_u8 (by omega) ?_ | refine fit_u64 (by omega) ?_ | refine fit_u32 (by omega) ?_ | refine fit_any ?_ | refine quo_nn (by omega) ?_ | refine rem_nn (by omega) ?_ | refine quo_any ?_ | refine rem_any ?_ | refine sh_in (by simp only [IntKind.bits]; omega) ?_) | ((with_reducible refine opsd_nil ?_); refine And.intro (by kernel_rfl) ?_) | with_reducible refine callV_snap ?_ | ((with_reducible refine call_go rusdS rusd_ok ?_); refine ⟨(by first | exact alOk_nil _ | exact alOk_f rfl), _, _, rusd_at _ _ _ _ u0 j3 k0 k7 l2, ?_⟩) | ((with_reducible refine call_go rTakePtS rTakePt_ok ?_); refine ⟨(by first | exact alOk_nil _ | exact alOk_f rfl), _, _, rTakePt_at d (-1) i hi hd hvd (by decide) (by decide) hlo, ?_⟩) | ((with_reducible refine call_go rFreeKpS rFreeKp_ok ?_); refine ⟨(by first | exact alOk_nil _ | exact alOk_f rfl), _, _, rFreeKp_at (tk d i) _ j hj2 hl7 hv2 o0 o1 q1 q2 q3, ?_⟩) | (with_reducible first | refine slice_old ?_ | refine app_grow ?_ | refine idx_map (by omega) ?_ | refine W_reg [(0, [0]), (1, [0, 5]), (2, [0, 5, 22]), (3, [2, 3, 4]), (4, [7]), (5, [7, 8]), (6, [7, 8, 30]), (7, [7, 8, 9]), (8, [7, 8, 9, 10]), (9, [7, 8, 9, 10, 39]), (10, [7, 8, 9, 10]), (11, [7, 8, 11]), (12, [8, 11, 12, 13]), (13, [7, 8, 11, 13]), (14, [7, 8]), (15, [2, 3, 4])] ?_ | refine W_drw [(0, [0]), (1, [0, 5]), (2, [0, 5, 22]), (3, [2, 3, 4]), (4, [7]), (5, [7, 8]), (6, [7, 8, 30]), (7, [7, 8, 9]), (8, [7, 8, 9, 10]), (9, [7, 8, 9, 10, 39]), (10, [7, 8, 9, 10]), (11, [7, 8, 11]), (12, [8, 11, 12, 13]), (13, [7, 8, 11, 13]), (14, [7, 8]), (15, [2, 3, 4])] (by kernel_rfl) ?_ | refine W_label ?_ | refine W_skip ?_ | refine W_exit ?_ | refine W_ret ?_ | refine end_at0 ?_) | (with_reducible refine And.intro (fun h => ?_) (fun h => ?_)) | (with_reducible refine And.intro (by omega) ?_)); (try simp only [go_sem, Nat.reduceAdd, Nat.reduceSub, Nat.reduceMul, Nat.reduceDiv, Nat.reduceMod, Nat.reducePow, Nat.reduceLT, Nat.reduceEqDiff, Nat.reduceBEq, Nat.reduceLeDiff, reduceIte, reduceCtorEq, Int.reduceLT, Int.reduceLE, Int.reduceEq, Int.reduceNe, Int.reduceNeg, Int.reduceAdd, Int.reduceSub, Int.reduceMul, Int.reduceToNat, Int.reducePow, Int.reduceDiv, Int.reduceMod, Nat.reduceSucc, hmul, hlen, ht, hset, g7, Try.ntmps17, Try.results17, rTidyS]))
          | fail)
        refine ⟨(nxt d i j, done ++ [mv d i j], ms'), [4, 6], ⟨by dsimp only; omega, hvn, hr', by simpa using hms⟩, by simp, ?_⟩
        rw [hnx]
        simp [go_sem, g5]
end Go.Proofs.Ytokocigmchfdfaa

/- The program's Take of a new frame in the middle, and the law CacheTakes; by the engine. -/
namespace Go.Proofs.Ytokocigmchfdfaa
open Go.RowKit
set_option maxRecDepth 100000
set_option linter.unusedSimpArgs false
set_option linter.unusedVariables false

theorem TakeIn_at (c : List (Int × Int)) (f : Int) (p : Nat) (h : c.length ≤ 100000) (hv : Val c) (hf : Full c) (f0 : 0 ≤ f) (f1 : f < 256) (ha : At c f p) (hn : ∀ h : p < c.length, (c[p]).1 ≠ f) :
    TakeInS.rel [dS c, iv f] [] (.tup [.row 0 2 0 (c.length + 1), iv (f * 8), bv true, iv 0]) [.rows 38 2 ((ins c p f).map encDS)] := ⟨c, f, p, h, hv, hf, f0, f1, ha, hn, rfl, rfl, rfl, rfl⟩
set_option maxHeartbeats 2000000 in
theorem TakeIn_ok : Ok Try.prog 11 TakeInS := by
  refine fn_ok TakeInS Try.func11 rfl rfl ?_
  rintro args ins res outs ⟨c, f, p, hc5, hv, hf, f0, f1, ha, hn, rfl, rfl, rfl, rfl⟩
  refine ⟨by simp [Try.ntmps11], fun w0 V Bo mu0 => ?_⟩
  have e0 := val_cc hv
  have hc : c.length ≤ 1000000 := by omega
  have g1 : ¬ f < -1 := by omega
  have g2 : ¬ 256 ≤ f := by omega
  have g3 : ¬ f = -1 := by omega
  have p0 : plc 0 = 0 := by decide +kernel
  have hiff : false = true ↔ ∃ h : p < c.length, (c[p]).1 = f := ⟨fun h => Bool.noConfusion h, fun ⟨h, h'⟩ => absurd h' (hn h)⟩
  by_cases hp : p < c.length
  · skip
    repeat' (first
      | (with_reducible first | refine W_seq ?_ | refine W_condT rfl ?_ | refine W_condF rfl ?_ | refine W_tf rfl (fun h => ?_) (fun h => ?_) | refine W_block ?_ | refine W_scope ?_ | refine endQ_ret ?_ | refine endQ_normal ?_)
      | ((with_reducible first | refine hK _ ?_ | refine hK _ _ ?_); clear hK K)
      | ((first | (with_reducible first | refine ops_cons (fun K hK => ?_) | refine opsd_cons (fun K hK => ?_) | refine ops_nil ?_ | refine fit_i64 (by omega) ?_ | refine fit_u8 (by omega) ?_ | refine fit_u64 (by omega) ?_ | refine fit_u32 (by omega) ?_ | refine fit_any ?_ | refine quo_nn (by omega) ?_ | refine rem_nn (by omega) ?_ | refine quo_any ?_ | refine rem_any ?_ | refine sh_in (by simp only [IntKind.bits]; omega) ?_) | ((with_reducible refine opsd_nil ?_); refine And.intro (by kernel_rfl) ?_) | ((with_reducible refine callV_lend InsInS [1,2] InsIn_ok rfl ?_); simp only [go_sem, Nat.reduceAdd, Nat.reduceSub, Nat.reduceMul, Nat.reduceDiv, Nat.reduceMod, Nat.reducePow, Nat.reduceLT, Nat.reduceEqDiff, Nat.reduceBEq, Nat.reduceLeDiff, reduceIte, reduceCtorEq, Int.reduceLT, Int.reduceLE, Int.reduceEq, Int.reduceNe, Int.reduceNeg, Int.reduceAdd, Int.reduceSub, Int.reduceMul, Int.reduceToNat, Int.reducePow, Int.reduceDiv, Int.reduceMod, Nat.reduceSucc, e0, g1, g2, g3, p0, InsInS, Int.add_zero, decide_true, Bool.and_self]; refine ⟨(by first | exact alOk_nil _ | exact alOk_f rfl), rfl, _, _, InsIn_at c (f, 1) p hp hc, ?_⟩) | with_reducible refine callV_snap ?_ | ((with_reducible refine call_go CheckS Check_ok ?_); refine ⟨(by first | exact alOk_nil _ | exact alOk_f rfl), _, _, Check_at _ hc, ?_⟩) | ((with_reducible refine call_go FirstNoS FirstNo_ok ?_); refine ⟨(by first | exact alOk_nil _ | exact alOk_f rfl), _, _, FirstNo_at _ hc hv hf, ?_⟩) | ((with_reducible refine call_go findS find_ok ?_); refine ⟨(by first | exact alOk_nil _ | exact alOk_f rfl), _, _, find_at _ _ p false hc hv (by omega) (by omega) ha hiff, ?_⟩) | ((with_reducible refine call_go AllocS Alloc_ok ?_); refine ⟨(by first | exact alOk_nil _ | exact alOk_f rfl), _, _, Alloc_at _ _ f0 f1 (by omega) (by omega), ?_⟩) | ((with_reducible refine call_go CloneS Clone_ok ?_); refine ⟨(by first | exact alOk_nil _ | exact alOk_f rfl), _, _, Clone_at _ hc, ?_⟩) | (with_reducible first | refine slice_old ?_ | refine app_grow ?_ | refine idx_map (by omega) ?_ | refine W_reg [(0, [0, 1]), (1, [0, 1, 8]), (2, [0, 1, 8, 25]), (3, [4, 5, 6, 7]), (4, [0, 1, 32]), (5, [4, 5, 6, 7]), (6, [0, 1, 10, 11]), (7, [0, 1, 10, 11, 39]), (8, [4, 5, 6, 7]), (9, [0, 1, 10, 42]), (10, [0, 10, 12, 13, 14]), (11, [0, 10, 12, 13, 14, 53]), (12, [4, 5, 6, 7]), (13, [4, 10, 12, 13]), (14, [4, 13]), (15, [4, 5, 6, 7]), (16, [0, 1, 64]), (17, [4, 5, 6, 7]), (18, [0, 1, 15, 16]), (19, [0, 1, 15, 71]), (20, [4, 5, 6, 7]), (21, [0, 11, 15, 17, 18]), (22, [0, 11, 15, 17, 18, 80]), (23, [4, 5, 6, 7]), (24, [4, 5, 6, 7])] ?_ | refine W_drw [(0, [0, 1]), (1, [0, 1, 8]), (2, [0, 1, 8, 25]), (3, [4, 5, 6, 7]), (4, [0, 1, 32]), (5, [4, 5, 6, 7]), (6, [0, 1, 10, 11]), (7, [0, 1, 10, 11, 39]), (8, [4, 5, 6, 7]), (9, [0, 1, 10, 42]), (10, [0, 10, 12, 13, 14]), (11, [0, 10, 12, 13, 14, 53]), (12, [4, 5, 6, 7]), (13, [4, 10, 12, 13]), (14, [4, 13]), (15, [4, 5, 6, 7]), (16, [0, 1, 64]), (17, [4, 5, 6, 7]), (18, [0, 1, 15, 16]), (19, [0, 1, 15, 71]), (20, [4, 5, 6, 7]), (21, [0, 11, 15, 17, 18]), (22, [0, 11, 15, 17, 18, 80]), (23, [4, 5, 6, 7]), (24, [4, 5, 6, 7])] (by kernel_rfl) ?_ | refine W_label ?_ | refine W_skip ?_ | refine W_exit ?_ | refine W_ret ?_ | refine end_at0 ?_) | (with_reducible refine And.intro (fun h => ?_) (fun h => ?_)) | (with_reducible refine And.intro (by omega) ?_)); (try simp only [go_sem, Nat.reduceAdd, Nat.reduceSub, Nat.reduceMul, Nat.reduceDiv, Nat.reduceMod, Nat.reducePow, Nat.reduceLT, Nat.reduceEqDiff, Nat.reduceBEq, Nat.reduceLeDiff, reduceIte, reduceCtorEq, Int.reduceLT, Int.reduceLE, Int.reduceEq, Int.reduceNe, Int.reduceNeg, Int.reduceAdd, Int.reduceSub, Int.reduceMul, Int.reduceToNat, Int.reducePow, Int.reduceDiv, Int.reduceMod, Nat.reduceSucc, e0, g1, g2, g3, p0, InsInS, Int.add_zero, decide_true, Bool.and_self, InsInS, Try.ntmps11, Try.results11, TakeInS]))
      | fail)
    have hins : c.take p ++ (f, 1) :: c.drop p = ins c p f := rfl
    rw [hins]
    generalize ins c p f = c'
    refine end_at [3] ?_
    simp [go_sem, Try.results11, TakeInS]
    exact flatS'
  · have hpe : p = c.length := Nat.le_antisymm ha.1 (by omega)
    subst hpe
    have hins : ins c c.length f = c ++ [(f, 1)] := by simp [ins]
    repeat' (first
      | (with_reducible first | refine W_seq ?_ | refine W_condT rfl ?_ | refine W_condF rfl ?_ | refine W_tf rfl (fun h => ?_) (fun h => ?_) | refine W_block ?_ | refine W_scope ?_ | refine endQ_ret ?_ | refine endQ_normal ?_)
      | ((with_reducible first | refine hK _ ?_ | refine hK _ _ ?_); clear hK K)
      | ((first | (with_reducible first | refine ops_cons (fun K hK => ?_) | refine opsd_cons (fun K hK => ?_) | refine ops_nil ?_ | refine fit_i64 (by omega) ?_ | refine fit_u8 (by omega) ?_ | refine fit_u64 (by omega) ?_ | refine fit_u32 (by omega) ?_ | refine fit_any ?_ | refine quo_nn (by omega) ?_ | refine rem_nn (by omega) ?_ | refine quo_any ?_ | refine rem_any ?_ | refine sh_in (by simp only [IntKind.bits]; omega) ?_) | ((with_reducible refine opsd_nil ?_); refine And.intro (by kernel_rfl) ?_) | ((with_reducible refine callV_lend InsS [1] Ins_ok rfl ?_); simp only [go_sem, Nat.reduceAdd, Nat.reduceSub, Nat.reduceMul, Nat.reduceDiv, Nat.reduceMod, Nat.reducePow, Nat.reduceLT, Nat.reduceEqDiff, Nat.reduceBEq, Nat.reduceLeDiff, reduceIte, reduceCtorEq, Int.reduceLT, Int.reduceLE, Int.reduceEq, Int.reduceNe, Int.reduceNeg, Int.reduceAdd, Int.reduceSub, Int.reduceMul, Int.reduceToNat, Int.reducePow, Int.reduceDiv, Int.reduceMod, Nat.reduceSucc, e0, g1, g2, g3, p0, InsS, Int.add_zero]; refine ⟨(by first | exact alOk_nil _ | exact alOk_f rfl), rfl, _, _, Ins_at c (f, 1) hc, ?_⟩) | with_reducible refine callV_snap ?_ | ((with_reducible refine call_go CheckS Check_ok ?_); refine ⟨(by first | exact alOk_nil _ | exact alOk_f rfl), _, _, Check_at _ hc, ?_⟩) | ((with_reducible refine call_go FirstNoS FirstNo_ok ?_); refine ⟨(by first | exact alOk_nil _ | exact alOk_f rfl), _, _, FirstNo_at _ hc hv hf, ?_⟩) | ((with_reducible refine call_go findS find_ok ?_); refine ⟨(by first | exact alOk_nil _ | exact alOk_f rfl), _, _, find_at _ _ c.length false hc hv (by omega) (by omega) ha hiff, ?_⟩) | ((with_reducible refine call_go AllocS Alloc_ok ?_); refine ⟨(by first | exact alOk_nil _ | exact alOk_f rfl), _, _, Alloc_at _ _ f0 f1 (by omega) (by omega), ?_⟩) | ((with_reducible refine call_go CloneS Clone_ok ?_); refine ⟨(by first | exact alOk_nil _ | exact alOk_f rfl), _, _, Clone_at _ hc, ?_⟩) | (with_reducible first | refine slice_old ?_ | refine app_grow ?_ | refine idx_map (by omega) ?_ | refine W_reg [(0, [0, 1]), (1, [0, 1, 8]), (2, [0, 1, 8, 25]), (3, [4, 5, 6, 7]), (4, [0, 1, 32]), (5, [4, 5, 6, 7]), (6, [0, 1, 10, 11]), (7, [0, 1, 10, 11, 39]), (8, [4, 5, 6, 7]), (9, [0, 1, 10, 42]), (10, [0, 10, 12, 13, 14]), (11, [0, 10, 12, 13, 14, 53]), (12, [4, 5, 6, 7]), (13, [4, 10, 12, 13]), (14, [4, 13]), (15, [4, 5, 6, 7]), (16, [0, 1, 64]), (17, [4, 5, 6, 7]), (18, [0, 1, 15, 16]), (19, [0, 1, 15, 71]), (20, [4, 5, 6, 7]), (21, [0, 11, 15, 17, 18]), (22, [0, 11, 15, 17, 18, 80]), (23, [4, 5, 6, 7]), (24, [4, 5, 6, 7])] ?_ | refine W_drw [(0, [0, 1]), (1, [0, 1, 8]), (2, [0, 1, 8, 25]), (3, [4, 5, 6, 7]), (4, [0, 1, 32]), (5, [4, 5, 6, 7]), (6, [0, 1, 10, 11]), (7, [0, 1, 10, 11, 39]), (8, [4, 5, 6, 7]), (9, [0, 1, 10, 42]), (10, [0, 10, 12, 13, 14]), (11, [0, 10, 12, 13, 14, 53]), (12, [4, 5, 6, 7]), (13, [4, 10, 12, 13]), (14, [4, 13]), (15, [4, 5, 6, 7]), (16, [0, 1, 64]), (17, [4, 5, 6, 7]), (18, [0, 1, 15, 16]), (19, [0, 1, 15, 71]), (20, [4, 5, 6, 7]), (21, [0, 11, 15, 17, 18]), (22, [0, 11, 15, 17, 18, 80]), (23, [4, 5, 6, 7]), (24, [4, 5, 6, 7])] (by kernel_rfl) ?_ | refine W_label ?_ | refine W_skip ?_ | refine W_exit ?_ | refine W_ret ?_ | refine end_at0 ?_) | (with_reducible refine And.intro (fun h => ?_) (fun h => ?_)) | (with_reducible refine And.intro (by omega) ?_)); (try simp only [go_sem, Nat.reduceAdd, Nat.reduceSub, Nat.reduceMul, Nat.reduceDiv, Nat.reduceMod, Nat.reducePow, Nat.reduceLT, Nat.reduceEqDiff, Nat.reduceBEq, Nat.reduceLeDiff, reduceIte, reduceCtorEq, Int.reduceLT, Int.reduceLE, Int.reduceEq, Int.reduceNe, Int.reduceNeg, Int.reduceAdd, Int.reduceSub, Int.reduceMul, Int.reduceToNat, Int.reducePow, Int.reduceDiv, Int.reduceMod, Nat.reduceSucc, e0, g1, g2, g3, p0, InsS, Int.add_zero, InsS, Try.ntmps11, Try.results11, TakeInS]))
      | fail)
    rw [← hins]
    generalize ins c c.length f = c'
    refine end_at [3] ?_
    simp [go_sem, Try.results11, TakeInS]
    exact flatS'
end Go.Proofs.Ytokocigmchfdfaa

/- CacheTakes, by the engine: the law. -/
namespace Go.Proofs.Ytokocigmchfdfaa
open Go.RowKit
set_option maxRecDepth 100000
set_option linter.unusedSimpArgs false
set_option linter.unusedVariables false

theorem ok_cover {P : Program} {f : FuncId} {s t0 : Spec} (h0 : Ok P f t0) (h : ∀ args ins res outs, s.rel args ins res outs → ∃ t : Spec, Ok P f t ∧ t.al = s.al ∧ t.dead = s.dead ∧ t.rel args ins res outs) : Ok P f s := by
  refine ⟨h0.1, fun args ins res outs hr w V Bo μ vals hin => ?_⟩
  obtain ⟨t, ht, h1, h2, h3⟩ := h args ins res outs hr
  have := ht.2 args ins res outs h3 w V Bo μ vals hin
  rw [h1, h2] at this
  exact this
theorem at_ex (c : List (Int × Int)) (hv : Val c) (x : Int) : ∃ p, At c x p := by
  refine ⟨(c.filter fun s => s.1 < x).length, ?_⟩
  have key : ∀ l : List (Int × Int), l.Pairwise (fun a b => a.1 < b.1) → ∀ j (h : j < l.length), (j < (l.filter fun s => s.1 < x).length → (l[j]).1 < x) ∧ ((l.filter fun s => s.1 < x).length ≤ j → x ≤ (l[j]).1) := by
    intro l
    induction l with
    | nil => intro _ j h; simp at h
    | cons s l ih =>
      intro hs j h
      rw [List.pairwise_cons] at hs
      by_cases hx : s.1 < x
      · rw [List.filter_cons_of_pos (by simpa using hx), List.length_cons]
        cases j with
        | zero => exact ⟨fun _ => hx, fun h => by omega⟩
        | succ j =>
          have := ih hs.2 j (by simpa using h)
          exact ⟨fun h' => this.1 (by omega), fun h' => this.2 (by omega)⟩
      · have hn : l.filter (fun s => s.1 < x) = [] := by
          rw [List.filter_eq_nil_iff]
          intro a ha
          have := hs.1 a ha
          simp; omega
        rw [List.filter_cons_of_neg (by simpa using hx), hn]
        refine ⟨fun h' => by simp at h', fun _ => ?_⟩
        cases j with
        | zero => show x ≤ s.1; omega
        | succ j =>
          have := hs.1 (l[j]'(by simpa using h)) (List.getElem_mem _)
          show x ≤ (l[j]'(by simpa using h)).1
          omega
  refine ⟨List.length_filter_le _ _, fun j h => (key c hv.sorted j h).1, fun j h => (key c hv.sorted j h).2⟩

/-- Take answers with an error -/
def TkE (c : List (Int × Int)) (f e : Int) : Prop := (f < -1 ∨ 256 ≤ f) ∧ e = 2 ∨ f = -1 ∧ Full c ∧ e = 5 ∨ ∃ (p : Nat) (h : p < c.length), Full c ∧ (c[p]).1 = f ∧ e = 7
def TkO (c : List (Int × Int)) (f : Int) (c' : List (Int × Int)) (o : Int) (b : Bool) : Prop :=
  (∃ (i : Nat) (h : i < c.length), -1 ≤ f ∧ f < 256 ∧ Lo c i ∧ c' = tk c i ∧ o = (c[i]).1 * 8 + plc (c[i]).2 ∧ b = false) ∨
  (∃ p : Nat, Full c ∧ 0 ≤ f ∧ f < 256 ∧ At c f p ∧ (∀ h : p < c.length, (c[p]).1 ≠ f) ∧ c' = ins c p f ∧ o = f * 8 ∧ b = true)
theorem tk_len (c : List (Int × Int)) (i : Nat) : (tk c i).length = c.length := by
  unfold tk; split <;> simp
theorem ins_len (c : List (Int × Int)) (p : Nat) (f : Int) (h : p ≤ c.length) : (ins c p f).length = c.length + 1 := by
  simp [ins]; omega
theorem tk_cases (c : List (Int × Int)) (f : Int) (hv : Val c) : (∃ e, TkE c f e) ∨ ∃ c' o b, TkO c f c' o b ∧ c'.length ≤ c.length + 1 := by
  by_cases h1 : f < -1 ∨ 256 ≤ f
  · exact .inl ⟨2, .inl ⟨h1, rfl⟩⟩
  rcases full_or_lo c with hf | ⟨i, hlo⟩
  · by_cases h2 : f = -1
    · exact .inl ⟨5, .inr (.inl ⟨h2, hf, rfl⟩)⟩
    obtain ⟨p, ha⟩ := at_ex c hv f
    by_cases h3 : ∃ h : p < c.length, (c[p]).1 = f
    · obtain ⟨h, hx⟩ := h3
      exact .inl ⟨7, .inr (.inr ⟨p, h, hf, hx, rfl⟩)⟩
    · exact .inr ⟨ins c p f, f * 8, true, .inr ⟨p, hf, by omega, by omega, ha, fun h hx => h3 ⟨h, hx⟩, rfl, rfl, rfl⟩, by rw [ins_len _ _ _ ha.1]; omega⟩
  · obtain ⟨hi, _⟩ := id hlo
    exact .inr ⟨tk c i, _, false, .inl ⟨i, hi, by omega, by omega, hlo, rfl, rfl, rfl⟩, by rw [tk_len]; omega⟩
def TkES : Spec := { rel := fun args ins res outs => ∃ (c : List (Int × Int)) (f e : Int), c.length ≤ 100000 ∧ Val c ∧ TkE c f e ∧ args = [dS c, iv f] ∧ ins = [] ∧ res = .tup [.nil, iv 0, bv false, iv e] ∧ outs = [] }
abbrev rTkES : Spec := TkES
theorem TkE_at (c : List (Int × Int)) (f e : Int) (h : c.length ≤ 100000) (hv : Val c) (ht : TkE c f e) : TkES.rel [dS c, iv f] [] (.tup [.nil, iv 0, bv false, iv e]) [] := ⟨c, f, e, h, hv, ht, rfl, rfl, rfl, rfl⟩
theorem rTkE_at (c : List (Int × Int)) (f e : Int) (h : c.length ≤ 100000) (hv : Val c) (ht : TkE c f e) : rTkES.rel [dS c, iv f] [] (.tup [.nil, iv 0, bv false, iv e]) [] := ⟨c, f, e, h, hv, ht, rfl, rfl, rfl, rfl⟩
theorem TkE_ok : Ok Try.prog 11 TkES := by
  refine ok_cover TakeRg_ok ?_
  rintro _ _ _ _ ⟨c, f, e, h, hv, ht, rfl, rfl, rfl, rfl⟩
  have h6 : c.length ≤ 1000000 := by omega
  rcases ht with ⟨h1, rfl⟩ | ⟨rfl, hf, rfl⟩ | ⟨p, hp, hf, hx, rfl⟩
  · exact ⟨_, TakeRg_ok, rfl, rfl, TakeRg_at c f h6 hv h1⟩
  · exact ⟨_, TakeFu_ok, rfl, rfl, TakeFu_at c h6 hv hf⟩
  · exact ⟨_, TakeEx_ok, rfl, rfl, TakeEx_at c f p hp h6 hv hf hx⟩
theorem rTkE_ok : Ok Try.prog 12 rTkES := by
  refine ok_cover rTakeRg_ok ?_
  rintro _ _ _ _ ⟨c, f, e, h, hv, ht, rfl, rfl, rfl, rfl⟩
  have h6 : c.length ≤ 1000000 := by omega
  rcases ht with ⟨h1, rfl⟩ | ⟨rfl, hf, rfl⟩ | ⟨p, hp, hf, hx, rfl⟩
  · exact ⟨_, rTakeRg_ok, rfl, rfl, rTakeRg_at c f h6 hv h1⟩
  · exact ⟨_, rTakeFu_ok, rfl, rfl, rTakeFu_at c h6 hv hf⟩
  · exact ⟨_, rTakeEx_ok, rfl, rfl, rTakeEx_at c f p hp h6 hv hf hx⟩
def TkOS : Spec := { rel := fun args ins res outs => ∃ (c : List (Int × Int)) (f : Int) (c' : List (Int × Int)) (o : Int) (b : Bool), c.length ≤ 100000 ∧ Val c ∧ TkO c f c' o b ∧ args = [dS c, iv f] ∧ ins = [] ∧ res = .tup [.row 0 2 0 c'.length, iv o, bv b, iv 0] ∧ outs = [.rows 38 2 (c'.map encDS)] }
abbrev rTkOS : Spec := TkOS
theorem TkO_at (c : List (Int × Int)) (f : Int) (c' : List (Int × Int)) (o : Int) (b : Bool) (h : c.length ≤ 100000) (hv : Val c) (ht : TkO c f c' o b) : TkOS.rel [dS c, iv f] [] (.tup [.row 0 2 0 c'.length, iv o, bv b, iv 0]) [.rows 38 2 (c'.map encDS)] := ⟨c, f, c', o, b, h, hv, ht, rfl, rfl, rfl, rfl⟩
theorem rTkO_at (c : List (Int × Int)) (f : Int) (c' : List (Int × Int)) (o : Int) (b : Bool) (h : c.length ≤ 100000) (hv : Val c) (ht : TkO c f c' o b) : rTkOS.rel [dS c, iv f] [] (.tup [.row 0 2 0 c'.length, iv o, bv b, iv 0]) [.rows 38 2 (c'.map encDS)] := TkO_at c f c' o b h hv ht
theorem TkO_ok : Ok Try.prog 11 TkOS := by
  refine ok_cover TakeRg_ok ?_
  rintro _ _ _ _ ⟨c, f, c', o, b, h, hv, ht, rfl, rfl, rfl, rfl⟩
  have h6 : c.length ≤ 1000000 := by omega
  rcases ht with ⟨i, hi, f0, f1, hlo, rfl, rfl, rfl⟩ | ⟨p, hf, f0, f1, ha, hn, rfl, rfl, rfl⟩
  · rw [tk_len]; exact ⟨_, TakePt_ok, rfl, rfl, TakePt_at c f i hi h6 hv f0 f1 hlo⟩
  · rw [ins_len _ _ _ ha.1]; exact ⟨_, TakeIn_ok, rfl, rfl, TakeIn_at c f p h hv hf f0 f1 ha hn⟩
theorem rTkO_ok : Ok Try.prog 12 rTkOS := by
  refine ok_cover rTakeRg_ok ?_
  rintro _ _ _ _ ⟨c, f, c', o, b, h, hv, ht, rfl, rfl, rfl, rfl⟩
  have h6 : c.length ≤ 1000000 := by omega
  rcases ht with ⟨i, hi, f0, f1, hlo, rfl, rfl, rfl⟩ | ⟨p, hf, f0, f1, ha, hn, rfl, rfl, rfl⟩
  · rw [tk_len]; exact ⟨_, rTakePt_ok, rfl, rfl, rTakePt_at c f i hi h6 hv f0 f1 hlo⟩
  · rw [ins_len _ _ _ ha.1]; exact ⟨_, rTakeIn_ok, rfl, rfl, rTakeIn_at c f p h hv hf f0 f1 ha hn⟩

/-- Free answers with an error -/
def FrE (c : List (Int × Int)) (o e : Int) : Prop := (o < 0 ∨ 2048 ≤ o) ∧ e = 2 ∨ ∃ p : Nat, 0 ≤ o ∧ o < 2048 ∧ At c (o / 8) p ∧ (∀ h : p < c.length, (c[p]).1 = o / 8 → usd (c[p]).2 (o % 8) = false) ∧ e = 6
def FrO (c : List (Int × Int)) (o : Int) (c' : List (Int × Int)) (f : Int) : Prop :=
  ∃ (p : Nat) (h : p < c.length), 0 ≤ o ∧ o < 2048 ∧ (c[p]).1 = o / 8 ∧ usd (c[p]).2 (o % 8) = true ∧
    ((c[p]).2 - 2 ^ (o % 8).toNat ≠ 0 ∧ c' = c.set p ((c[p]).1, (c[p]).2 - 2 ^ (o % 8).toNat) ∧ f = -1 ∨ (c[p]).2 - 2 ^ (o % 8).toNat = 0 ∧ c' = c.eraseIdx p ∧ f = o / 8)
theorem fr_cases (c : List (Int × Int)) (o : Int) (hv : Val c) : (∃ e, FrE c o e) ∨ ∃ c' f, FrO c o c' f ∧ c'.length ≤ c.length := by
  by_cases h1 : o < 0 ∨ 2048 ≤ o
  · exact .inl ⟨2, .inl ⟨h1, rfl⟩⟩
  obtain ⟨p, ha⟩ := at_ex c hv (o / 8)
  by_cases h2 : ∃ h : p < c.length, (c[p]).1 = o / 8 ∧ usd (c[p]).2 (o % 8) = true
  · obtain ⟨hp, hx, hu⟩ := h2
    by_cases hz : (c[p]).2 - 2 ^ (o % 8).toNat = 0
    · exact .inr ⟨_, _, ⟨p, hp, by omega, by omega, hx, hu, .inr ⟨hz, rfl, rfl⟩⟩, by rw [List.length_eraseIdx]; split <;> omega⟩
    · exact .inr ⟨_, _, ⟨p, hp, by omega, by omega, hx, hu, .inl ⟨hz, rfl, rfl⟩⟩, by simp⟩
  · refine .inl ⟨6, .inr ⟨p, by omega, by omega, ha, fun h hx => ?_, rfl⟩⟩
    cases hu : usd (c[p]).2 (o % 8) with
    | false => rfl
    | true => exact absurd ⟨h, hx, hu⟩ h2
def FrES : Spec := { rel := fun args ins res outs => ∃ (c : List (Int × Int)) (o e : Int), c.length ≤ 1000000 ∧ Val c ∧ FrE c o e ∧ args = [dS c, iv o] ∧ ins = [] ∧ res = .tup [.nil, iv 0, iv e] ∧ outs = [] }
abbrev rFrES : Spec := FrES
theorem FrE_at (c : List (Int × Int)) (o e : Int) (h : c.length ≤ 1000000) (hv : Val c) (ht : FrE c o e) : FrES.rel [dS c, iv o] [] (.tup [.nil, iv 0, iv e]) [] := ⟨c, o, e, h, hv, ht, rfl, rfl, rfl, rfl⟩
theorem rFrE_at (c : List (Int × Int)) (o e : Int) (h : c.length ≤ 1000000) (hv : Val c) (ht : FrE c o e) : rFrES.rel [dS c, iv o] [] (.tup [.nil, iv 0, iv e]) [] := ⟨c, o, e, h, hv, ht, rfl, rfl, rfl, rfl⟩
theorem FrE_ok : Ok Try.prog 14 FrES := by
  refine ok_cover FreeRg_ok ?_
  rintro _ _ _ _ ⟨c, o, e, h, hv, ht, rfl, rfl, rfl, rfl⟩
  rcases ht with ⟨h1, rfl⟩ | ⟨p, o0, o1, ha, hu, rfl⟩
  · exact ⟨_, FreeRg_ok, rfl, rfl, FreeRg_at c o h hv h1⟩
  · exact ⟨_, FreeMs_ok, rfl, rfl, FreeMs_at c o p h hv o0 o1 ha hu⟩
theorem rFrE_ok : Ok Try.prog 15 rFrES := by
  refine ok_cover rFreeRg_ok ?_
  rintro _ _ _ _ ⟨c, o, e, h, hv, ht, rfl, rfl, rfl, rfl⟩
  rcases ht with ⟨h1, rfl⟩ | ⟨p, o0, o1, ha, hu, rfl⟩
  · exact ⟨_, rFreeRg_ok, rfl, rfl, rFreeRg_at c o h hv h1⟩
  · exact ⟨_, rFreeMs_ok, rfl, rfl, rFreeMs_at c o p h hv o0 o1 ha hu⟩
def FrOS : Spec := { rel := fun args ins res outs => ∃ (c : List (Int × Int)) (o : Int) (c' : List (Int × Int)) (f : Int), c.length ≤ 1000000 ∧ Val c ∧ FrO c o c' f ∧ args = [dS c, iv o] ∧ ins = [] ∧ res = .tup [.row 0 2 0 c'.length, iv f, iv 0] ∧ outs = [.rows 38 2 (c'.map encDS)] }
abbrev rFrOS : Spec := FrOS
theorem FrO_at (c : List (Int × Int)) (o : Int) (c' : List (Int × Int)) (f : Int) (h : c.length ≤ 1000000) (hv : Val c) (ht : FrO c o c' f) : FrOS.rel [dS c, iv o] [] (.tup [.row 0 2 0 c'.length, iv f, iv 0]) [.rows 38 2 (c'.map encDS)] := ⟨c, o, c', f, h, hv, ht, rfl, rfl, rfl, rfl⟩
theorem rFrO_at (c : List (Int × Int)) (o : Int) (c' : List (Int × Int)) (f : Int) (h : c.length ≤ 1000000) (hv : Val c) (ht : FrO c o c' f) : rFrOS.rel [dS c, iv o] [] (.tup [.row 0 2 0 c'.length, iv f, iv 0]) [.rows 38 2 (c'.map encDS)] := FrO_at c o c' f h hv ht
theorem FrO_ok : Ok Try.prog 14 FrOS := by
  refine ok_cover FreeRg_ok ?_
  rintro _ _ _ _ ⟨c, o, c', f, h, hv, ⟨p, hp, o0, o1, hx, hu, ht⟩, rfl, rfl, rfl, rfl⟩
  rcases ht with ⟨hz, rfl, rfl⟩ | ⟨hz, rfl, rfl⟩
  · rw [List.length_set]; exact ⟨_, FreeKp_ok, rfl, rfl, FreeKp_at c o p hp h hv o0 o1 hx hu hz⟩
  · rw [List.length_eraseIdx_of_lt hp]; exact ⟨_, FreeDr_ok, rfl, rfl, FreeDr_at c o p hp h hv o0 o1 hx hu hz⟩
theorem rFrO_ok : Ok Try.prog 15 rFrOS := by
  refine ok_cover rFreeRg_ok ?_
  rintro _ _ _ _ ⟨c, o, c', f, h, hv, ⟨p, hp, o0, o1, hx, hu, ht⟩, rfl, rfl, rfl, rfl⟩
  rcases ht with ⟨hz, rfl, rfl⟩ | ⟨hz, rfl, rfl⟩
  · rw [List.length_set]; exact ⟨_, rFreeKp_ok, rfl, rfl, rFreeKp_at c o p hp h hv o0 o1 hx hu hz⟩
  · rw [List.length_eraseIdx_of_lt hp]; exact ⟨_, rFreeDr_ok, rfl, rfl, rFreeDr_at c o p hp h hv o0 o1 hx hu hz⟩

def tksS : Spec := { rel := fun args ins res outs => ∃ (c : List (Int × Int)) (f o : Int), (∀ s ∈ c, 0 ≤ s.2 ∧ s.2 ≤ 255) ∧ args = [dS c, iv f, iv o] ∧ ins = [] ∧ res = bv true ∧ outs = [] }
set_option maxHeartbeats 8000000 in
theorem tks_ok : Ok Try.prog 3 tksS := by
  refine fn_ok tksS Try.func3 rfl rfl ?_
  rintro args ins res outs ⟨c, fr, ob, hu, rfl, rfl, rfl, rfl⟩
  refine ⟨by simp [Try.ntmps3], fun w0 V Bo mu0 => ?_⟩
  by_cases hl : 300 < c.length
  · have hli : (300 : Int) < c.length := by omega
    repeat' (first
      | (with_reducible first | refine W_seq ?_ | refine W_condT rfl ?_ | refine W_condF rfl ?_ | refine W_tf rfl (fun h => ?_) (fun h => ?_) | refine W_block ?_ | refine W_scope ?_ | refine endQ_ret ?_ | refine endQ_normal ?_)
      | ((with_reducible first | refine hK _ ?_ | refine hK _ _ ?_); clear hK K)
      | ((first | (with_reducible first | refine ops_cons (fun K hK => ?_) | refine opsd_cons (fun K hK => ?_) | refine ops_nil ?_ | refine fit_i64 (by omega) ?_ | refine fit_u8 (by omega) ?_ | refine fit_u64 (by omega) ?_ | refine fit_u32 (by omega) ?_ | refine fit_any ?_ | refine quo_nn (by omega) ?_ | refine rem_nn (by omega) ?_ | refine quo_any ?_ | refine rem_any ?_ | refine sh_in (by simp only [IntKind.bits]; omega) ?_) | ((with_reducible refine opsd_nil ?_); refine And.intro (by kernel_rfl) ?_) | with_reducible refine callV_snap ?_ | ((with_reducible refine call_go awakeS awake_ok ?_); refine ⟨(by first | exact alOk_nil _ | exact alOk_f rfl), _, _, awake_at , ?_⟩) | (with_reducible first | refine slice_old ?_ | refine app_grow ?_ | refine idx_map (by omega) ?_ | refine W_reg [(0, [0, 1, 2]), (1, [0, 1, 2, 20]), (2, [6]), (3, [0, 1, 2, 7]), (4, [0, 1, 2, 7, 8, 9, 10, 11]), (5, [0, 2, 7, 8, 9, 10, 11, 12, 13, 14, 15]), (6, [0, 2, 7, 58]), (7, [6]), (8, [0, 2, 7, 8, 9, 11]), (9, [0, 7, 8, 9, 11, 12, 13, 15]), (10, [0, 7, 86]), (11, [6]), (12, [0, 7, 8, 11, 16]), (13, [0, 7, 8, 11, 12, 15, 16, 17]), (14, [6])] ?_ | refine W_drw [(0, [0, 1, 2]), (1, [0, 1, 2, 20]), (2, [6]), (3, [0, 1, 2, 7]), (4, [0, 1, 2, 7, 8, 9, 10, 11]), (5, [0, 2, 7, 8, 9, 10, 11, 12, 13, 14, 15]), (6, [0, 2, 7, 58]), (7, [6]), (8, [0, 2, 7, 8, 9, 11]), (9, [0, 7, 8, 9, 11, 12, 13, 15]), (10, [0, 7, 86]), (11, [6]), (12, [0, 7, 8, 11, 16]), (13, [0, 7, 8, 11, 12, 15, 16, 17]), (14, [6])] (by kernel_rfl) ?_ | refine W_label ?_ | refine W_skip ?_ | refine W_exit ?_ | refine W_ret ?_ | refine end_at0 ?_) | (with_reducible refine And.intro (fun h => ?_) (fun h => ?_)) | (with_reducible refine And.intro (by omega) ?_)); (try simp only [go_sem, Nat.reduceAdd, Nat.reduceSub, Nat.reduceMul, Nat.reduceDiv, Nat.reduceMod, Nat.reducePow, Nat.reduceLT, Nat.reduceEqDiff, Nat.reduceBEq, Nat.reduceLeDiff, reduceIte, reduceCtorEq, Int.reduceLT, Int.reduceLE, Int.reduceEq, Int.reduceNe, Int.reduceNeg, Int.reduceAdd, Int.reduceSub, Int.reduceMul, Int.reduceToNat, Int.reducePow, Int.reduceDiv, Int.reduceMod, Nat.reduceSucc, hli, Try.ntmps3, Try.results3, tksS]))
      | fail)
  · have hli : ¬ (300 : Int) < c.length := by omega
    have hl5 : c.length ≤ 100000 := by omega
    have hl6 : c.length ≤ 1000000 := by omega
    have ub := Try.underlying4
    have htk : ∀ l : List (Int × Int), List.take l.length (List.map encDS l) = List.map encDS l := fun l => List.take_of_length_le (by simp)
    have htm : ∀ l : List (Int × Int), List.take l.length (List.map encDM l) = List.map encDM l := fun l => List.take_of_length_le (by simp)
    have z6 : ([] : List (Int × Int)).length ≤ 1000000 := Nat.zero_le _
    by_cases hc : (cc c).1 = 0
    · have hv : Val c := cc_val hu hc
      have hoc : ∀ s ∈ c, oc s.2 ≤ 8 := fun s hs => (oc_bd s.2 (hv.u s hs).1 (hv.u s hs).2).2
      have hw : wsum 0 c ≤ ((720000 : Nat) : Int) := by
        have h1 := wsum_bd c 0 hoc
        have h2 : (c.length : Int) * c.length ≤ 300 * 300 := Int.mul_le_mul (by omega) (by omega) (by omega) (by omega)
        have e : 8 * (c.length : Int) * (((0 : Nat) : Int) + c.length) = 8 * ((c.length : Int) * c.length) := by rw [Int.mul_assoc]; simp
        omega
      obtain ⟨d, ms, hrun, hml⟩ := trun_ex 720000 c hv hw
      obtain ⟨hvd, hcnt, hend, hdl⟩ := run_ends hrun hv
      have hl7 : d.length ≤ 1000000 := by omega
      have hml6 : ms.length ≤ 1000000 := by omega
      rcases tk_cases c fr hv with ⟨e, hte⟩ | ⟨c1, o1, b1, hto, hlen1⟩
      · rcases fr_cases c ob hv with ⟨e2, hfe⟩ | ⟨c2, f2, hfo, hlen2⟩
        · skip
          repeat' (first
            | (with_reducible first | refine W_seq ?_ | refine W_condT rfl ?_ | refine W_condF rfl ?_ | refine W_tf rfl (fun h => ?_) (fun h => ?_) | refine W_block ?_ | refine W_scope ?_ | refine endQ_ret ?_ | refine endQ_normal ?_)
            | ((with_reducible first | refine hK _ ?_ | refine hK _ _ ?_); clear hK K)
            | ((first | (with_reducible first | refine ops_cons (fun K hK => ?_) | refine opsd_cons (fun K hK => ?_) | refine ops_nil ?_ | refine fit_i64 (by omega) ?_ | refine fit_u8 (by omega) ?_ | refine fit_u64 (by omega) ?_ | refine fit_u32 (by omega) ?_ | refine fit_any ?_ | refine quo_nn (by omega) ?_ | refine rem_nn (by omega) ?_ | refine quo_any ?_ | refine rem_any ?_ | refine sh_in (by simp only [IntKind.bits]; omega) ?_) | ((with_reducible refine opsd_nil ?_); refine And.intro (by kernel_rfl) ?_) | with_reducible refine callV_snap ?_ | ((with_reducible refine call_go awakeS awake_ok ?_); refine ⟨(by first | exact alOk_nil _ | exact alOk_f rfl), _, _, awake_at , ?_⟩) | ((with_reducible refine call_go OwnSS OwnS_ok ?_); refine ⟨(by first | exact alOk_nil _ | exact alOk_f rfl), _, _, OwnS_at _ hl6, ?_⟩) | ((with_reducible refine call_go TkES TkE_ok ?_); refine ⟨(by first | exact alOk_nil _ | exact alOk_f rfl), _, _, TkE_at c fr e hl5 hv hte, ?_⟩) | ((with_reducible refine call_go rTkES rTkE_ok ?_); refine ⟨(by first | exact alOk_nil _ | exact alOk_f rfl), _, _, rTkE_at c fr e hl5 hv hte, ?_⟩) | ((with_reducible refine call_go FrES FrE_ok ?_); refine ⟨(by first | exact alOk_nil _ | exact alOk_f rfl), _, _, FrE_at c ob e2 hl6 hv hfe, ?_⟩) | ((with_reducible refine call_go rFrES rFrE_ok ?_); refine ⟨(by first | exact alOk_nil _ | exact alOk_f rfl), _, _, rFrE_at c ob e2 hl6 hv hfe, ?_⟩) | ((with_reducible refine call_go TidyS Tidy_ok ?_); refine ⟨(by first | exact alOk_nil _ | exact alOk_f rfl), _, _, Tidy_at c d ms hl6 hv hrun hml6, ?_⟩) | ((with_reducible refine call_go rTidyS rTidy_ok ?_); refine ⟨(by first | exact alOk_nil _ | exact alOk_f rfl), _, _, rTidy_at c d ms hl6 hv hrun hml6, ?_⟩) | ((with_reducible refine call_go SameS Same_ok ?_); refine ⟨(by first | exact alOk_nil _ | exact alOk_f rfl), _, _, Same_at [] z6, ?_⟩) | ((with_reducible refine call_go SameS Same_ok ?_); refine ⟨(by first | exact alOk_nil _ | exact alOk_f rfl), _, _, Same_at c hl6, ?_⟩) | ((with_reducible refine call_go SameS Same_ok ?_); refine ⟨(by first | exact alOk_nil _ | exact alOk_f rfl), _, _, Same_at d hl7, ?_⟩) | ((with_reducible refine call_go smS sm_ok ?_); refine ⟨(by first | exact alOk_nil _ | exact alOk_f rfl), _, _, sm_at ms hml6, ?_⟩) | (with_reducible first | refine slice_old ?_ | refine app_grow ?_ | refine idx_map (by omega) ?_ | refine W_reg [(0, [0, 1, 2]), (1, [0, 1, 2, 20]), (2, [6]), (3, [0, 1, 2, 7]), (4, [0, 1, 2, 7, 8, 9, 10, 11]), (5, [0, 2, 7, 8, 9, 10, 11, 12, 13, 14, 15]), (6, [0, 2, 7, 58]), (7, [6]), (8, [0, 2, 7, 8, 9, 11]), (9, [0, 7, 8, 9, 11, 12, 13, 15]), (10, [0, 7, 86]), (11, [6]), (12, [0, 7, 8, 11, 16]), (13, [0, 7, 8, 11, 12, 15, 16, 17]), (14, [6])] ?_ | refine W_drw [(0, [0, 1, 2]), (1, [0, 1, 2, 20]), (2, [6]), (3, [0, 1, 2, 7]), (4, [0, 1, 2, 7, 8, 9, 10, 11]), (5, [0, 2, 7, 8, 9, 10, 11, 12, 13, 14, 15]), (6, [0, 2, 7, 58]), (7, [6]), (8, [0, 2, 7, 8, 9, 11]), (9, [0, 7, 8, 9, 11, 12, 13, 15]), (10, [0, 7, 86]), (11, [6]), (12, [0, 7, 8, 11, 16]), (13, [0, 7, 8, 11, 12, 15, 16, 17]), (14, [6])] (by kernel_rfl) ?_ | refine W_label ?_ | refine W_skip ?_ | refine W_exit ?_ | refine W_ret ?_ | refine end_at0 ?_) | (with_reducible refine And.intro (fun h => ?_) (fun h => ?_)) | (with_reducible refine And.intro (by omega) ?_)); (try simp only [go_sem, Nat.reduceAdd, Nat.reduceSub, Nat.reduceMul, Nat.reduceDiv, Nat.reduceMod, Nat.reducePow, Nat.reduceLT, Nat.reduceEqDiff, Nat.reduceBEq, Nat.reduceLeDiff, reduceIte, reduceCtorEq, Int.reduceLT, Int.reduceLE, Int.reduceEq, Int.reduceNe, Int.reduceNeg, Int.reduceAdd, Int.reduceSub, Int.reduceMul, Int.reduceToNat, Int.reducePow, Int.reduceDiv, Int.reduceMod, Nat.reduceSucc, hli, htk, htm, ub, beq_self_eq_true, bne_self_eq_false, Try.ntmps3, Try.results3, tksS]))
            | fail)
        · have hl2 : c2.length ≤ 1000000 := by omega
          repeat' (first
            | (with_reducible first | refine W_seq ?_ | refine W_condT rfl ?_ | refine W_condF rfl ?_ | refine W_tf rfl (fun h => ?_) (fun h => ?_) | refine W_block ?_ | refine W_scope ?_ | refine endQ_ret ?_ | refine endQ_normal ?_)
            | ((with_reducible first | refine hK _ ?_ | refine hK _ _ ?_); clear hK K)
            | ((first | (with_reducible first | refine ops_cons (fun K hK => ?_) | refine opsd_cons (fun K hK => ?_) | refine ops_nil ?_ | refine fit_i64 (by omega) ?_ | refine fit_u8 (by omega) ?_ | refine fit_u64 (by omega) ?_ | refine fit_u32 (by omega) ?_ | refine fit_any ?_ | refine quo_nn (by omega) ?_ | refine rem_nn (by omega) ?_ | refine quo_any ?_ | refine rem_any ?_ | refine sh_in (by simp only [IntKind.bits]; omega) ?_) | ((with_reducible refine opsd_nil ?_); refine And.intro (by kernel_rfl) ?_) | with_reducible refine callV_snap ?_ | ((with_reducible refine call_go awakeS awake_ok ?_); refine ⟨(by first | exact alOk_nil _ | exact alOk_f rfl), _, _, awake_at , ?_⟩) | ((with_reducible refine call_go OwnSS OwnS_ok ?_); refine ⟨(by first | exact alOk_nil _ | exact alOk_f rfl), _, _, OwnS_at _ hl6, ?_⟩) | ((with_reducible refine call_go TkES TkE_ok ?_); refine ⟨(by first | exact alOk_nil _ | exact alOk_f rfl), _, _, TkE_at c fr e hl5 hv hte, ?_⟩) | ((with_reducible refine call_go rTkES rTkE_ok ?_); refine ⟨(by first | exact alOk_nil _ | exact alOk_f rfl), _, _, rTkE_at c fr e hl5 hv hte, ?_⟩) | ((with_reducible refine call_go FrOS FrO_ok ?_); refine ⟨(by first | exact alOk_nil _ | exact alOk_f rfl), _, _, FrO_at c ob c2 f2 hl6 hv hfo, ?_⟩) | ((with_reducible refine call_go rFrOS rFrO_ok ?_); refine ⟨(by first | exact alOk_nil _ | exact alOk_f rfl), _, _, rFrO_at c ob c2 f2 hl6 hv hfo, ?_⟩) | ((with_reducible refine call_go TidyS Tidy_ok ?_); refine ⟨(by first | exact alOk_nil _ | exact alOk_f rfl), _, _, Tidy_at c d ms hl6 hv hrun hml6, ?_⟩) | ((with_reducible refine call_go rTidyS rTidy_ok ?_); refine ⟨(by first | exact alOk_nil _ | exact alOk_f rfl), _, _, rTidy_at c d ms hl6 hv hrun hml6, ?_⟩) | ((with_reducible refine call_go SameS Same_ok ?_); refine ⟨(by first | exact alOk_nil _ | exact alOk_f rfl), _, _, Same_at [] z6, ?_⟩) | ((with_reducible refine call_go SameS Same_ok ?_); refine ⟨(by first | exact alOk_nil _ | exact alOk_f rfl), _, _, Same_at c2 hl2, ?_⟩) | ((with_reducible refine call_go SameS Same_ok ?_); refine ⟨(by first | exact alOk_nil _ | exact alOk_f rfl), _, _, Same_at c hl6, ?_⟩) | ((with_reducible refine call_go SameS Same_ok ?_); refine ⟨(by first | exact alOk_nil _ | exact alOk_f rfl), _, _, Same_at d hl7, ?_⟩) | ((with_reducible refine call_go smS sm_ok ?_); refine ⟨(by first | exact alOk_nil _ | exact alOk_f rfl), _, _, sm_at ms hml6, ?_⟩) | (with_reducible first | refine slice_old ?_ | refine app_grow ?_ | refine idx_map (by omega) ?_ | refine W_reg [(0, [0, 1, 2]), (1, [0, 1, 2, 20]), (2, [6]), (3, [0, 1, 2, 7]), (4, [0, 1, 2, 7, 8, 9, 10, 11]), (5, [0, 2, 7, 8, 9, 10, 11, 12, 13, 14, 15]), (6, [0, 2, 7, 58]), (7, [6]), (8, [0, 2, 7, 8, 9, 11]), (9, [0, 7, 8, 9, 11, 12, 13, 15]), (10, [0, 7, 86]), (11, [6]), (12, [0, 7, 8, 11, 16]), (13, [0, 7, 8, 11, 12, 15, 16, 17]), (14, [6])] ?_ | refine W_drw [(0, [0, 1, 2]), (1, [0, 1, 2, 20]), (2, [6]), (3, [0, 1, 2, 7]), (4, [0, 1, 2, 7, 8, 9, 10, 11]), (5, [0, 2, 7, 8, 9, 10, 11, 12, 13, 14, 15]), (6, [0, 2, 7, 58]), (7, [6]), (8, [0, 2, 7, 8, 9, 11]), (9, [0, 7, 8, 9, 11, 12, 13, 15]), (10, [0, 7, 86]), (11, [6]), (12, [0, 7, 8, 11, 16]), (13, [0, 7, 8, 11, 12, 15, 16, 17]), (14, [6])] (by kernel_rfl) ?_ | refine W_label ?_ | refine W_skip ?_ | refine W_exit ?_ | refine W_ret ?_ | refine end_at0 ?_) | (with_reducible refine And.intro (fun h => ?_) (fun h => ?_)) | (with_reducible refine And.intro (by omega) ?_)); (try simp only [go_sem, Nat.reduceAdd, Nat.reduceSub, Nat.reduceMul, Nat.reduceDiv, Nat.reduceMod, Nat.reducePow, Nat.reduceLT, Nat.reduceEqDiff, Nat.reduceBEq, Nat.reduceLeDiff, reduceIte, reduceCtorEq, Int.reduceLT, Int.reduceLE, Int.reduceEq, Int.reduceNe, Int.reduceNeg, Int.reduceAdd, Int.reduceSub, Int.reduceMul, Int.reduceToNat, Int.reducePow, Int.reduceDiv, Int.reduceMod, Nat.reduceSucc, hli, htk, htm, ub, beq_self_eq_true, bne_self_eq_false, Try.ntmps3, Try.results3, tksS]))
            | fail)
      · have hl1 : c1.length ≤ 1000000 := by omega
        rcases fr_cases c ob hv with ⟨e2, hfe⟩ | ⟨c2, f2, hfo, hlen2⟩
        · skip
          repeat' (first
            | (with_reducible first | refine W_seq ?_ | refine W_condT rfl ?_ | refine W_condF rfl ?_ | refine W_tf rfl (fun h => ?_) (fun h => ?_) | refine W_block ?_ | refine W_scope ?_ | refine endQ_ret ?_ | refine endQ_normal ?_)
            | ((with_reducible first | refine hK _ ?_ | refine hK _ _ ?_); clear hK K)
            | ((first | (with_reducible first | refine ops_cons (fun K hK => ?_) | refine opsd_cons (fun K hK => ?_) | refine ops_nil ?_ | refine fit_i64 (by omega) ?_ | refine fit_u8 (by omega) ?_ | refine fit_u64 (by omega) ?_ | refine fit_u32 (by omega) ?_ | refine fit_any ?_ | refine quo_nn (by omega) ?_ | refine rem_nn (by omega) ?_ | refine quo_any ?_ | refine rem_any ?_ | refine sh_in (by simp only [IntKind.bits]; omega) ?_) | ((with_reducible refine opsd_nil ?_); refine And.intro (by kernel_rfl) ?_) | with_reducible refine callV_snap ?_ | ((with_reducible refine call_go awakeS awake_ok ?_); refine ⟨(by first | exact alOk_nil _ | exact alOk_f rfl), _, _, awake_at , ?_⟩) | ((with_reducible refine call_go OwnSS OwnS_ok ?_); refine ⟨(by first | exact alOk_nil _ | exact alOk_f rfl), _, _, OwnS_at _ hl6, ?_⟩) | ((with_reducible refine call_go TkOS TkO_ok ?_); refine ⟨(by first | exact alOk_nil _ | exact alOk_f rfl), _, _, TkO_at c fr c1 o1 b1 hl5 hv hto, ?_⟩) | ((with_reducible refine call_go rTkOS rTkO_ok ?_); refine ⟨(by first | exact alOk_nil _ | exact alOk_f rfl), _, _, rTkO_at c fr c1 o1 b1 hl5 hv hto, ?_⟩) | ((with_reducible refine call_go FrES FrE_ok ?_); refine ⟨(by first | exact alOk_nil _ | exact alOk_f rfl), _, _, FrE_at c ob e2 hl6 hv hfe, ?_⟩) | ((with_reducible refine call_go rFrES rFrE_ok ?_); refine ⟨(by first | exact alOk_nil _ | exact alOk_f rfl), _, _, rFrE_at c ob e2 hl6 hv hfe, ?_⟩) | ((with_reducible refine call_go TidyS Tidy_ok ?_); refine ⟨(by first | exact alOk_nil _ | exact alOk_f rfl), _, _, Tidy_at c d ms hl6 hv hrun hml6, ?_⟩) | ((with_reducible refine call_go rTidyS rTidy_ok ?_); refine ⟨(by first | exact alOk_nil _ | exact alOk_f rfl), _, _, rTidy_at c d ms hl6 hv hrun hml6, ?_⟩) | ((with_reducible refine call_go SameS Same_ok ?_); refine ⟨(by first | exact alOk_nil _ | exact alOk_f rfl), _, _, Same_at [] z6, ?_⟩) | ((with_reducible refine call_go SameS Same_ok ?_); refine ⟨(by first | exact alOk_nil _ | exact alOk_f rfl), _, _, Same_at c1 hl1, ?_⟩) | ((with_reducible refine call_go SameS Same_ok ?_); refine ⟨(by first | exact alOk_nil _ | exact alOk_f rfl), _, _, Same_at c hl6, ?_⟩) | ((with_reducible refine call_go SameS Same_ok ?_); refine ⟨(by first | exact alOk_nil _ | exact alOk_f rfl), _, _, Same_at d hl7, ?_⟩) | ((with_reducible refine call_go smS sm_ok ?_); refine ⟨(by first | exact alOk_nil _ | exact alOk_f rfl), _, _, sm_at ms hml6, ?_⟩) | (with_reducible first | refine slice_old ?_ | refine app_grow ?_ | refine idx_map (by omega) ?_ | refine W_reg [(0, [0, 1, 2]), (1, [0, 1, 2, 20]), (2, [6]), (3, [0, 1, 2, 7]), (4, [0, 1, 2, 7, 8, 9, 10, 11]), (5, [0, 2, 7, 8, 9, 10, 11, 12, 13, 14, 15]), (6, [0, 2, 7, 58]), (7, [6]), (8, [0, 2, 7, 8, 9, 11]), (9, [0, 7, 8, 9, 11, 12, 13, 15]), (10, [0, 7, 86]), (11, [6]), (12, [0, 7, 8, 11, 16]), (13, [0, 7, 8, 11, 12, 15, 16, 17]), (14, [6])] ?_ | refine W_drw [(0, [0, 1, 2]), (1, [0, 1, 2, 20]), (2, [6]), (3, [0, 1, 2, 7]), (4, [0, 1, 2, 7, 8, 9, 10, 11]), (5, [0, 2, 7, 8, 9, 10, 11, 12, 13, 14, 15]), (6, [0, 2, 7, 58]), (7, [6]), (8, [0, 2, 7, 8, 9, 11]), (9, [0, 7, 8, 9, 11, 12, 13, 15]), (10, [0, 7, 86]), (11, [6]), (12, [0, 7, 8, 11, 16]), (13, [0, 7, 8, 11, 12, 15, 16, 17]), (14, [6])] (by kernel_rfl) ?_ | refine W_label ?_ | refine W_skip ?_ | refine W_exit ?_ | refine W_ret ?_ | refine end_at0 ?_) | (with_reducible refine And.intro (fun h => ?_) (fun h => ?_)) | (with_reducible refine And.intro (by omega) ?_)); (try simp only [go_sem, Nat.reduceAdd, Nat.reduceSub, Nat.reduceMul, Nat.reduceDiv, Nat.reduceMod, Nat.reducePow, Nat.reduceLT, Nat.reduceEqDiff, Nat.reduceBEq, Nat.reduceLeDiff, reduceIte, reduceCtorEq, Int.reduceLT, Int.reduceLE, Int.reduceEq, Int.reduceNe, Int.reduceNeg, Int.reduceAdd, Int.reduceSub, Int.reduceMul, Int.reduceToNat, Int.reducePow, Int.reduceDiv, Int.reduceMod, Nat.reduceSucc, hli, htk, htm, ub, beq_self_eq_true, bne_self_eq_false, Try.ntmps3, Try.results3, tksS]))
            | fail)
        · have hl2 : c2.length ≤ 1000000 := by omega
          repeat' (first
            | (with_reducible first | refine W_seq ?_ | refine W_condT rfl ?_ | refine W_condF rfl ?_ | refine W_tf rfl (fun h => ?_) (fun h => ?_) | refine W_block ?_ | refine W_scope ?_ | refine endQ_ret ?_ | refine endQ_normal ?_)
            | ((with_reducible first | refine hK _ ?_ | refine hK _ _ ?_); clear hK K)
            | ((first | (with_reducible first | refine ops_cons (fun K hK => ?_) | refine opsd_cons (fun K hK => ?_) | refine ops_nil ?_ | refine fit_i64 (by omega) ?_ | refine fit_u8 (by omega) ?_ | refine fit_u64 (by omega) ?_ | refine fit_u32 (by omega) ?_ | refine fit_any ?_ | refine quo_nn (by omega) ?_ | refine rem_nn (by omega) ?_ | refine quo_any ?_ | refine rem_any ?_ | refine sh_in (by simp only [IntKind.bits]; omega) ?_) | ((with_reducible refine opsd_nil ?_); refine And.intro (by kernel_rfl) ?_) | with_reducible refine callV_snap ?_ | ((with_reducible refine call_go awakeS awake_ok ?_); refine ⟨(by first | exact alOk_nil _ | exact alOk_f rfl), _, _, awake_at , ?_⟩) | ((with_reducible refine call_go OwnSS OwnS_ok ?_); refine ⟨(by first | exact alOk_nil _ | exact alOk_f rfl), _, _, OwnS_at _ hl6, ?_⟩) | ((with_reducible refine call_go TkOS TkO_ok ?_); refine ⟨(by first | exact alOk_nil _ | exact alOk_f rfl), _, _, TkO_at c fr c1 o1 b1 hl5 hv hto, ?_⟩) | ((with_reducible refine call_go rTkOS rTkO_ok ?_); refine ⟨(by first | exact alOk_nil _ | exact alOk_f rfl), _, _, rTkO_at c fr c1 o1 b1 hl5 hv hto, ?_⟩) | ((with_reducible refine call_go FrOS FrO_ok ?_); refine ⟨(by first | exact alOk_nil _ | exact alOk_f rfl), _, _, FrO_at c ob c2 f2 hl6 hv hfo, ?_⟩) | ((with_reducible refine call_go rFrOS rFrO_ok ?_); refine ⟨(by first | exact alOk_nil _ | exact alOk_f rfl), _, _, rFrO_at c ob c2 f2 hl6 hv hfo, ?_⟩) | ((with_reducible refine call_go TidyS Tidy_ok ?_); refine ⟨(by first | exact alOk_nil _ | exact alOk_f rfl), _, _, Tidy_at c d ms hl6 hv hrun hml6, ?_⟩) | ((with_reducible refine call_go rTidyS rTidy_ok ?_); refine ⟨(by first | exact alOk_nil _ | exact alOk_f rfl), _, _, rTidy_at c d ms hl6 hv hrun hml6, ?_⟩) | ((with_reducible refine call_go SameS Same_ok ?_); refine ⟨(by first | exact alOk_nil _ | exact alOk_f rfl), _, _, Same_at c1 hl1, ?_⟩) | ((with_reducible refine call_go SameS Same_ok ?_); refine ⟨(by first | exact alOk_nil _ | exact alOk_f rfl), _, _, Same_at c2 hl2, ?_⟩) | ((with_reducible refine call_go SameS Same_ok ?_); refine ⟨(by first | exact alOk_nil _ | exact alOk_f rfl), _, _, Same_at c hl6, ?_⟩) | ((with_reducible refine call_go SameS Same_ok ?_); refine ⟨(by first | exact alOk_nil _ | exact alOk_f rfl), _, _, Same_at d hl7, ?_⟩) | ((with_reducible refine call_go smS sm_ok ?_); refine ⟨(by first | exact alOk_nil _ | exact alOk_f rfl), _, _, sm_at ms hml6, ?_⟩) | (with_reducible first | refine slice_old ?_ | refine app_grow ?_ | refine idx_map (by omega) ?_ | refine W_reg [(0, [0, 1, 2]), (1, [0, 1, 2, 20]), (2, [6]), (3, [0, 1, 2, 7]), (4, [0, 1, 2, 7, 8, 9, 10, 11]), (5, [0, 2, 7, 8, 9, 10, 11, 12, 13, 14, 15]), (6, [0, 2, 7, 58]), (7, [6]), (8, [0, 2, 7, 8, 9, 11]), (9, [0, 7, 8, 9, 11, 12, 13, 15]), (10, [0, 7, 86]), (11, [6]), (12, [0, 7, 8, 11, 16]), (13, [0, 7, 8, 11, 12, 15, 16, 17]), (14, [6])] ?_ | refine W_drw [(0, [0, 1, 2]), (1, [0, 1, 2, 20]), (2, [6]), (3, [0, 1, 2, 7]), (4, [0, 1, 2, 7, 8, 9, 10, 11]), (5, [0, 2, 7, 8, 9, 10, 11, 12, 13, 14, 15]), (6, [0, 2, 7, 58]), (7, [6]), (8, [0, 2, 7, 8, 9, 11]), (9, [0, 7, 8, 9, 11, 12, 13, 15]), (10, [0, 7, 86]), (11, [6]), (12, [0, 7, 8, 11, 16]), (13, [0, 7, 8, 11, 12, 15, 16, 17]), (14, [6])] (by kernel_rfl) ?_ | refine W_label ?_ | refine W_skip ?_ | refine W_exit ?_ | refine W_ret ?_ | refine end_at0 ?_) | (with_reducible refine And.intro (fun h => ?_) (fun h => ?_)) | (with_reducible refine And.intro (by omega) ?_)); (try simp only [go_sem, Nat.reduceAdd, Nat.reduceSub, Nat.reduceMul, Nat.reduceDiv, Nat.reduceMod, Nat.reducePow, Nat.reduceLT, Nat.reduceEqDiff, Nat.reduceBEq, Nat.reduceLeDiff, reduceIte, reduceCtorEq, Int.reduceLT, Int.reduceLE, Int.reduceEq, Int.reduceNe, Int.reduceNeg, Int.reduceAdd, Int.reduceSub, Int.reduceMul, Int.reduceToNat, Int.reducePow, Int.reduceDiv, Int.reduceMod, Nat.reduceSucc, hli, htk, htm, ub, beq_self_eq_true, bne_self_eq_false, Try.ntmps3, Try.results3, tksS]))
            | fail)
    · obtain ⟨e, he⟩ : ∃ e, (cc c).1 = e := ⟨_, rfl⟩
      have he0 : e ≠ 0 := fun h => hc (he.trans h)
      repeat' (first
        | (with_reducible first | refine W_seq ?_ | refine W_condT rfl ?_ | refine W_condF rfl ?_ | refine W_tf rfl (fun h => ?_) (fun h => ?_) | refine W_block ?_ | refine W_scope ?_ | refine endQ_ret ?_ | refine endQ_normal ?_)
        | ((with_reducible first | refine hK _ ?_ | refine hK _ _ ?_); clear hK K)
        | ((first | (with_reducible first | refine ops_cons (fun K hK => ?_) | refine opsd_cons (fun K hK => ?_) | refine ops_nil ?_ | refine fit_i64 (by omega) ?_ | refine fit_u8 (by omega) ?_ | refine fit_u64 (by omega) ?_ | refine fit_u32 (by omega) ?_ | refine fit_any ?_ | refine quo_nn (by omega) ?_ | refine rem_nn (by omega) ?_ | refine quo_any ?_ | refine rem_any ?_ | refine sh_in (by simp only [IntKind.bits]; omega) ?_) | ((with_reducible refine opsd_nil ?_); refine And.intro (by kernel_rfl) ?_) | with_reducible refine callV_snap ?_ | ((with_reducible refine call_go awakeS awake_ok ?_); refine ⟨(by first | exact alOk_nil _ | exact alOk_f rfl), _, _, awake_at , ?_⟩) | ((with_reducible refine call_go OwnSS OwnS_ok ?_); refine ⟨(by first | exact alOk_nil _ | exact alOk_f rfl), _, _, OwnS_at _ hl6, ?_⟩) | ((with_reducible refine call_go TakeBadS TakeBad_ok ?_); refine ⟨(by first | exact alOk_nil _ | exact alOk_f rfl), _, _, TakeBad_at c fr hl6 hc, ?_⟩) | ((with_reducible refine call_go rTakeBadS rTakeBad_ok ?_); refine ⟨(by first | exact alOk_nil _ | exact alOk_f rfl), _, _, rTakeBad_at c fr hl6 hc, ?_⟩) | ((with_reducible refine call_go FreeBadS FreeBad_ok ?_); refine ⟨(by first | exact alOk_nil _ | exact alOk_f rfl), _, _, FreeBad_at c ob hl6 hc, ?_⟩) | ((with_reducible refine call_go rFreeBadS rFreeBad_ok ?_); refine ⟨(by first | exact alOk_nil _ | exact alOk_f rfl), _, _, rFreeBad_at c ob hl6 hc, ?_⟩) | ((with_reducible refine call_go TidyBadS TidyBad_ok ?_); refine ⟨(by first | exact alOk_nil _ | exact alOk_f rfl), _, _, TidyBad_at c e hl6 he he0, ?_⟩) | ((with_reducible refine call_go rTidyBadS rTidyBad_ok ?_); refine ⟨(by first | exact alOk_nil _ | exact alOk_f rfl), _, _, rTidyBad_at c e hl6 he he0, ?_⟩) | ((with_reducible refine call_go SameS Same_ok ?_); refine ⟨(by first | exact alOk_nil _ | exact alOk_f rfl), _, _, Same_at [] z6, ?_⟩) | ((with_reducible refine call_go SameS Same_ok ?_); refine ⟨(by first | exact alOk_nil _ | exact alOk_f rfl), _, _, Same_at c hl6, ?_⟩) | ((with_reducible refine call_go smS sm_ok ?_); refine ⟨(by first | exact alOk_nil _ | exact alOk_f rfl), _, _, sm_at [] z6, ?_⟩) | (with_reducible first | refine slice_old ?_ | refine app_grow ?_ | refine idx_map (by omega) ?_ | refine W_reg [(0, [0, 1, 2]), (1, [0, 1, 2, 20]), (2, [6]), (3, [0, 1, 2, 7]), (4, [0, 1, 2, 7, 8, 9, 10, 11]), (5, [0, 2, 7, 8, 9, 10, 11, 12, 13, 14, 15]), (6, [0, 2, 7, 58]), (7, [6]), (8, [0, 2, 7, 8, 9, 11]), (9, [0, 7, 8, 9, 11, 12, 13, 15]), (10, [0, 7, 86]), (11, [6]), (12, [0, 7, 8, 11, 16]), (13, [0, 7, 8, 11, 12, 15, 16, 17]), (14, [6])] ?_ | refine W_drw [(0, [0, 1, 2]), (1, [0, 1, 2, 20]), (2, [6]), (3, [0, 1, 2, 7]), (4, [0, 1, 2, 7, 8, 9, 10, 11]), (5, [0, 2, 7, 8, 9, 10, 11, 12, 13, 14, 15]), (6, [0, 2, 7, 58]), (7, [6]), (8, [0, 2, 7, 8, 9, 11]), (9, [0, 7, 8, 9, 11, 12, 13, 15]), (10, [0, 7, 86]), (11, [6]), (12, [0, 7, 8, 11, 16]), (13, [0, 7, 8, 11, 12, 15, 16, 17]), (14, [6])] (by kernel_rfl) ?_ | refine W_label ?_ | refine W_skip ?_ | refine W_exit ?_ | refine W_ret ?_ | refine end_at0 ?_) | (with_reducible refine And.intro (fun h => ?_) (fun h => ?_)) | (with_reducible refine And.intro (by omega) ?_)); (try simp only [go_sem, Nat.reduceAdd, Nat.reduceSub, Nat.reduceMul, Nat.reduceDiv, Nat.reduceMod, Nat.reducePow, Nat.reduceLT, Nat.reduceEqDiff, Nat.reduceBEq, Nat.reduceLeDiff, reduceIte, reduceCtorEq, Int.reduceLT, Int.reduceLE, Int.reduceEq, Int.reduceNe, Int.reduceNeg, Int.reduceAdd, Int.reduceSub, Int.reduceMul, Int.reduceToNat, Int.reducePow, Int.reduceDiv, Int.reduceMod, Nat.reduceSucc, hli, htk, he, ub, beq_self_eq_true, bne_self_eq_false, Try.ntmps3, Try.results3, tksS]))
        | fail)
end Go.Proofs.Ytokocigmchfdfaa
