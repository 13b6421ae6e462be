/- ShrinkOldest, by the engine. -/
import Derived.Test.YtpkiabhlmjnemaaShrR
namespace Go.Proofs.Ytpkiabhlmjnemaa
open Go.RowKit
set_option maxRecDepth 100000
set_option linter.unusedSimpArgs false
set_option linter.unusedVariables false

theorem old_val {l : List O} (hv : Vl l) (k : Nat) : oldE l k = 0 ∧ oldL l k = l.take k := by
  have hc : (chk l).1 = 0 := by rw [val_chk hv]
  have e : oldE l k = 0 := oldE_ok hc (by omega)
  exact ⟨e, by unfold oldL; rw [if_pos e]; simp⟩
def oldS : Spec := { rel := fun args ins res outs => ∃ (nums : List Int) (n : Int), args = [dI nums, iv n] ∧ ins = [] ∧ res = bv true ∧ outs = [] }
set_option maxHeartbeats 4000000 in
theorem old_ok : Ok Try.prog 4 oldS := by
  refine fn_ok oldS Try.func4 rfl rfl ?_
  rintro args ins res outs ⟨nums, n, rfl, rfl, rfl, rfl⟩
  refine ⟨by simp [Try.ntmps4], fun w0 V Bo mu0 => ?_⟩
  have hv := md_val nums
  have hlen := md_len nums
  generalize hmd : md nums = l at *
  have hl6 : l.length ≤ 1000000 := by omega
  obtain ⟨k, hk⟩ : ∃ k : Nat, n % 45 = k := ⟨(n % 45).toNat, by omega⟩
  have hk45 : k < 45 := by omega
  obtain ⟨eA, eA2⟩ := old_val hv k
  obtain ⟨eB, eB2⟩ := old_val hv (k + 1)
  have hkc : ((k + 1 : Nat) : Int) = (k : Int) + 1 := by omega
  rw [hkc] at eB eB2
  obtain ⟨A, hA⟩ : ∃ A, A = l.take k := ⟨_, rfl⟩
  obtain ⟨B, hB⟩ : ∃ B, B = l.take (k + 1) := ⟨_, rfl⟩
  rw [← hA] at eA2
  rw [← hB] at eB2
  have hAl : A.length = min k l.length := by rw [hA]; simp
  have hBl : B.length = min (k + 1) l.length := by rw [hB]; simp
  have hmA : (if (l.length : Int) < k then (l.length : Int) else k) = (A.length : Int) := by split <;> omega
  have hmB : (if (l.length : Int) < (k : Int) + 1 then (l.length : Int) else (k : Int) + 1) = (B.length : Int) := by split <;> omega
  have hAB : A = B.take A.length := by
    by_cases h : k ≤ l.length
    · have e1 : A.length = k := by omega
      rw [e1, hB, hA, List.take_take, Nat.min_eq_left (by omega)]
    · have e1 : A = l := by rw [hA]; exact List.take_of_length_le (by omega)
      have e2 : B = l := by rw [hB]; exact List.take_of_length_le (by omega)
      rw [e1, e2, List.take_length]
  have hsl : List.take A.length (List.map encDO B) = A.map encDO := by rw [← List.map_take, ← hAB]
  have hle : A.length ≤ B.length := by omega
  have hA6 : A.length ≤ 1000000 := by omega
  have hro := encO.rows B
  have hAget : ∀ j (h : j < A.length), ∃ h2 : j < l.length, A[j] = l[j] := by
    intro j h
    refine ⟨by omega, ?_⟩
    simp [hA]
  clear hAB
  repeat' (first
    | (with_reducible first | refine W_seq ?_ | refine W_condT rfl ?_ | refine W_condF rfl ?_ | refine W_tf rfl (fun h => ?_) (fun h => ?_) | refine W_block ?_ | refine W_scope ?_ | refine endQ_ret ?_ | refine endQ_normal ?_)
    | ((with_reducible first | refine hK _ ?_ | refine hK _ _ ?_); clear hK K)
    | ((with_reducible refine And.intro hro ?_); (try simp only [go_sem, Nat.reduceAdd, Nat.reduceSub, Nat.reduceMul, Nat.reduceDiv, Nat.reduceMod, Nat.reducePow, Nat.reduceLT, Nat.reduceEqDiff, Nat.reduceBEq, Nat.reduceLeDiff, reduceIte, reduceCtorEq, Int.reduceLT, Int.reduceLE, Int.reduceEq, Int.reduceNe, Int.reduceNeg, Int.reduceAdd, Int.reduceSub, Int.reduceMul, Int.reduceToNat, Int.reducePow, Int.reduceDiv, Int.reduceMod, Nat.reduceSucc, Nat.sub_zero, hsl]))
    | ((first | (with_reducible first | refine ops_cons (fun K hK => ?_) | refine opsd_cons (fun K hK => ?_) | refine ops_nil ?_ | refine fit_i64 (by omega) ?_ | refine fit_u8 (by omega) ?_ | refine fit_u64 (by omega) ?_ | refine fit_u32 (by omega) ?_ | refine fit_any ?_ | refine quo_nn (by omega) ?_ | refine rem_nn (by omega) ?_ | refine quo_any ?_ | refine rem_any ?_ | refine sh_in (by simp only [IntKind.bits]; omega) ?_) | ((with_reducible refine opsd_nil ?_); refine And.intro (by kernel_rfl) ?_) | with_reducible refine callV_snap ?_ | ((with_reducible refine call_go madeFS madeF_ok ?_); refine ⟨(by first | exact alOk_nil _ | exact alOk_f rfl), _, _, madeF_at nums, ?_⟩) | ((with_reducible refine call_go ModS Mod_ok ?_); refine ⟨(by first | exact alOk_nil _ | exact alOk_f rfl), _, _, Mod_at n 45 (by omega) (by omega), ?_⟩) | ((with_reducible refine call_go OldestFS OldestF_ok ?_); refine ⟨(by first | exact alOk_nil _ | exact alOk_f rfl), _, _, OldestF_at l k hl6, ?_⟩) | ((with_reducible refine call_go OldestFS OldestF_ok ?_); refine ⟨(by first | exact alOk_nil _ | exact alOk_f rfl), _, _, OldestF_at l (k + 1) hl6, ?_⟩) | ((with_reducible refine call_go SameOS SameO_ok ?_); refine ⟨(by first | exact alOk_nil _ | exact alOk_f rfl), _, _, SameO_at A hA6, ?_⟩) | (with_reducible first | refine slice_old ?_ | refine app_grow ?_ | refine idx_map (by omega) ?_ | refine W_reg [(0, [0, 1]), (1, [5, 6]), (2, [5, 6, 7, 8]), (3, [5, 6, 7, 8, 9, 10]), (4, [5, 7, 64]), (5, [4]), (6, [5, 7, 11]), (7, [5, 7, 11, 68]), (8, [5, 7, 11]), (9, [5, 7, 11, 12]), (10, [5, 7, 11, 12, 13]), (11, [5, 7, 11, 12, 13, 74]), (12, [5, 7, 11, 12, 13]), (13, [5, 7, 11, 12, 13]), (14, [5, 7, 11, 118]), (15, [4]), (16, [4])] ?_ | refine W_drw [(0, [0, 1]), (1, [5, 6]), (2, [5, 6, 7, 8]), (3, [5, 6, 7, 8, 9, 10]), (4, [5, 7, 64]), (5, [4]), (6, [5, 7, 11]), (7, [5, 7, 11, 68]), (8, [5, 7, 11]), (9, [5, 7, 11, 12]), (10, [5, 7, 11, 12, 13]), (11, [5, 7, 11, 12, 13, 74]), (12, [5, 7, 11, 12, 13]), (13, [5, 7, 11, 12, 13]), (14, [5, 7, 11, 118]), (15, [4]), (16, [4])] (by kernel_rfl) ?_ | refine W_label ?_ | refine W_skip ?_ | refine W_exit ?_ | refine W_ret ?_ | refine end_at0 ?_) | (with_reducible refine And.intro (fun h => ?_) (fun h => ?_)) | (with_reducible refine And.intro (by omega) ?_)); (try simp only [go_sem, Nat.reduceAdd, Nat.reduceSub, Nat.reduceMul, Nat.reduceDiv, Nat.reduceMod, Nat.reducePow, Nat.reduceLT, Nat.reduceEqDiff, Nat.reduceBEq, Nat.reduceLeDiff, reduceIte, reduceCtorEq, Int.reduceLT, Int.reduceLE, Int.reduceEq, Int.reduceNe, Int.reduceNeg, Int.reduceAdd, Int.reduceSub, Int.reduceMul, Int.reduceToNat, Int.reducePow, Int.reduceDiv, Int.reduceMod, Nat.reduceSucc, hmd, hk, eA, eA2, eB, eB2, hmA, hmB, Nat.sub_zero, hsl, Try.ntmps4, Try.results4, oldS]))
    | fail)
  refine W_loop (fun i : Nat => ⟨[(5, dO l), (7, dO A), (11, iv i)], []⟩) (fun i => i ≤ l.length) (fun i => l.length - i) 0 (Nat.zero_le _) [] ?_ ?_
  · simp [go_sem]
  intro i hi
  by_cases hil : i < l.length
  case neg =>
    have hii : ¬ (i : Int) < l.length := by omega
    repeat' (first
      | (with_reducible first | refine W_seq ?_ | refine W_condT rfl ?_ | refine W_condF rfl ?_ | refine W_tf rfl (fun h => ?_) (fun h => ?_) | refine W_block ?_ | refine W_scope ?_ | refine endQ_ret ?_ | refine endQ_normal ?_)
      | ((with_reducible first | refine hK _ ?_ | refine hK _ _ ?_); clear hK K)
      | ((first | (with_reducible first | refine ops_cons (fun K hK => ?_) | refine opsd_cons (fun K hK => ?_) | refine ops_nil ?_ | refine fit_i64 (by omega) ?_ | refine fit_u8 (by omega) ?_ | refine fit_u64 (by omega) ?_ | refine fit_u32 (by omega) ?_ | refine fit_any ?_ | refine quo_nn (by omega) ?_ | refine rem_nn (by omega) ?_ | refine quo_any ?_ | refine rem_any ?_ | refine sh_in (by simp only [IntKind.bits]; omega) ?_) | ((with_reducible refine opsd_nil ?_); refine And.intro (by kernel_rfl) ?_) | with_reducible refine callV_snap ?_ | ((with_reducible refine call_go awakeS awake_ok ?_); refine ⟨(by first | exact alOk_nil _ | exact alOk_f rfl), _, _, awake_at , ?_⟩) | (with_reducible first | refine slice_old ?_ | refine app_grow ?_ | refine idx_map (by omega) ?_ | refine W_reg [(0, [0, 1]), (1, [5, 6]), (2, [5, 6, 7, 8]), (3, [5, 6, 7, 8, 9, 10]), (4, [5, 7, 64]), (5, [4]), (6, [5, 7, 11]), (7, [5, 7, 11, 68]), (8, [5, 7, 11]), (9, [5, 7, 11, 12]), (10, [5, 7, 11, 12, 13]), (11, [5, 7, 11, 12, 13, 74]), (12, [5, 7, 11, 12, 13]), (13, [5, 7, 11, 12, 13]), (14, [5, 7, 11, 118]), (15, [4]), (16, [4])] ?_ | refine W_drw [(0, [0, 1]), (1, [5, 6]), (2, [5, 6, 7, 8]), (3, [5, 6, 7, 8, 9, 10]), (4, [5, 7, 64]), (5, [4]), (6, [5, 7, 11]), (7, [5, 7, 11, 68]), (8, [5, 7, 11]), (9, [5, 7, 11, 12]), (10, [5, 7, 11, 12, 13]), (11, [5, 7, 11, 12, 13, 74]), (12, [5, 7, 11, 12, 13]), (13, [5, 7, 11, 12, 13]), (14, [5, 7, 11, 118]), (15, [4]), (16, [4])] (by kernel_rfl) ?_ | refine W_label ?_ | refine W_skip ?_ | refine W_exit ?_ | refine W_ret ?_ | refine end_at0 ?_) | (with_reducible refine And.intro (fun h => ?_) (fun h => ?_)) | (with_reducible refine And.intro (by omega) ?_)); (try simp only [go_sem, Nat.reduceAdd, Nat.reduceSub, Nat.reduceMul, Nat.reduceDiv, Nat.reduceMod, Nat.reducePow, Nat.reduceLT, Nat.reduceEqDiff, Nat.reduceBEq, Nat.reduceLeDiff, reduceIte, reduceCtorEq, Int.reduceLT, Int.reduceLE, Int.reduceEq, Int.reduceNe, Int.reduceNeg, Int.reduceAdd, Int.reduceSub, Int.reduceMul, Int.reduceToNat, Int.reducePow, Int.reduceDiv, Int.reduceMod, Nat.reduceSucc, hii, Try.ntmps4, Try.results4, oldS]))
      | fail)
  have hii : (i : Int) < l.length := by omega
  repeat' (first
    | (with_reducible first | refine W_seq ?_ | refine W_condT rfl ?_ | refine W_condF rfl ?_ | refine W_tf rfl (fun h => ?_) (fun h => ?_) | refine W_block ?_ | refine W_scope ?_ | refine endQ_ret ?_ | refine endQ_normal ?_)
    | ((with_reducible first | refine hK _ ?_ | refine hK _ _ ?_); clear hK K)
    | ((first | (with_reducible first | refine ops_cons (fun K hK => ?_) | refine opsd_cons (fun K hK => ?_) | refine ops_nil ?_ | refine fit_i64 (by omega) ?_ | refine fit_u8 (by omega) ?_ | refine fit_u64 (by omega) ?_ | refine fit_u32 (by omega) ?_ | refine fit_any ?_ | refine quo_nn (by omega) ?_ | refine rem_nn (by omega) ?_ | refine quo_any ?_ | refine rem_any ?_ | refine sh_in (by simp only [IntKind.bits]; omega) ?_) | ((with_reducible refine opsd_nil ?_); refine And.intro (by kernel_rfl) ?_) | with_reducible refine callV_snap ?_ | (with_reducible first | refine slice_old ?_ | refine app_grow ?_ | refine idx_map (by omega) ?_ | refine W_reg [(0, [0, 1]), (1, [5, 6]), (2, [5, 6, 7, 8]), (3, [5, 6, 7, 8, 9, 10]), (4, [5, 7, 64]), (5, [4]), (6, [5, 7, 11]), (7, [5, 7, 11, 68]), (8, [5, 7, 11]), (9, [5, 7, 11, 12]), (10, [5, 7, 11, 12, 13]), (11, [5, 7, 11, 12, 13, 74]), (12, [5, 7, 11, 12, 13]), (13, [5, 7, 11, 12, 13]), (14, [5, 7, 11, 118]), (15, [4]), (16, [4])] ?_ | refine W_drw [(0, [0, 1]), (1, [5, 6]), (2, [5, 6, 7, 8]), (3, [5, 6, 7, 8, 9, 10]), (4, [5, 7, 64]), (5, [4]), (6, [5, 7, 11]), (7, [5, 7, 11, 68]), (8, [5, 7, 11]), (9, [5, 7, 11, 12]), (10, [5, 7, 11, 12, 13]), (11, [5, 7, 11, 12, 13, 74]), (12, [5, 7, 11, 12, 13]), (13, [5, 7, 11, 12, 13]), (14, [5, 7, 11, 118]), (15, [4]), (16, [4])] (by kernel_rfl) ?_ | refine W_label ?_ | refine W_skip ?_ | refine W_exit ?_ | refine W_ret ?_ | refine end_at0 ?_) | (with_reducible refine And.intro (fun h => ?_) (fun h => ?_)) | (with_reducible refine And.intro (by omega) ?_)); (try simp only [go_sem, Nat.reduceAdd, Nat.reduceSub, Nat.reduceMul, Nat.reduceDiv, Nat.reduceMod, Nat.reducePow, Nat.reduceLT, Nat.reduceEqDiff, Nat.reduceBEq, Nat.reduceLeDiff, reduceIte, reduceCtorEq, Int.reduceLT, Int.reduceLE, Int.reduceEq, Int.reduceNe, Int.reduceNeg, Int.reduceAdd, Int.reduceSub, Int.reduceMul, Int.reduceToNat, Int.reducePow, Int.reduceDiv, Int.reduceMod, Nat.reduceSucc, hii, Try.ntmps4, Try.results4, oldS]))
    | fail)
  refine W_loop (fun j : Nat => ⟨[(5, dO l), (7, dO A), (11, iv i), (12, bv (decide (i < j))), (13, iv j)], []⟩) (fun j => j ≤ A.length) (fun j => A.length - j) 0 (Nat.zero_le _) [] ?_ ?_
  · simp [go_sem]
  intro j hj
  by_cases hjl : j < A.length
  · have hjj : (j : Int) < A.length := by omega
    obtain ⟨hj2, hAj⟩ := hAget j hjl
    rcases Nat.lt_trichotomy j i with h | h | h
    · have h1 : (i < j) = False := by simp; omega
      have hne : ¬ (l[j]).2.1 = (l[i]).2.1 := by
        have := List.pairwise_iff_getElem.1 hv.age j i hj2 hil h
        omega
      repeat' (first
        | (with_reducible first | refine W_seq ?_ | refine W_condT rfl ?_ | refine W_condF rfl ?_ | refine W_tf rfl (fun h => ?_) (fun h => ?_) | refine W_block ?_ | refine W_scope ?_ | refine endQ_ret ?_ | refine endQ_normal ?_)
        | ((with_reducible first | refine hK _ ?_ | refine hK _ _ ?_); clear hK K)
        | ((with_reducible refine And.intro eqt_obj ?_); (try simp only [go_sem, Nat.reduceAdd, Nat.reduceSub, Nat.reduceMul, Nat.reduceDiv, Nat.reduceMod, Nat.reducePow, Nat.reduceLT, Nat.reduceEqDiff, Nat.reduceBEq, Nat.reduceLeDiff, reduceIte, reduceCtorEq, Int.reduceLT, Int.reduceLE, Int.reduceEq, Int.reduceNe, Int.reduceNeg, Int.reduceAdd, Int.reduceSub, Int.reduceMul, Int.reduceToNat, Int.reducePow, Int.reduceDiv, Int.reduceMod, Nat.reduceSucc, hAj, hne, and_false, false_and]))
        | ((first | (with_reducible first | refine ops_cons (fun K hK => ?_) | refine opsd_cons (fun K hK => ?_) | refine ops_nil ?_ | refine fit_i64 (by omega) ?_ | refine fit_u8 (by omega) ?_ | refine fit_u64 (by omega) ?_ | refine fit_u32 (by omega) ?_ | refine fit_any ?_ | refine quo_nn (by omega) ?_ | refine rem_nn (by omega) ?_ | refine quo_any ?_ | refine rem_any ?_ | refine sh_in (by simp only [IntKind.bits]; omega) ?_) | ((with_reducible refine opsd_nil ?_); refine And.intro (by kernel_rfl) ?_) | with_reducible refine callV_snap ?_ | (with_reducible first | refine slice_old ?_ | refine app_grow ?_ | refine idx_map (by omega) ?_ | refine W_reg [(0, [0, 1]), (1, [5, 6]), (2, [5, 6, 7, 8]), (3, [5, 6, 7, 8, 9, 10]), (4, [5, 7, 64]), (5, [4]), (6, [5, 7, 11]), (7, [5, 7, 11, 68]), (8, [5, 7, 11]), (9, [5, 7, 11, 12]), (10, [5, 7, 11, 12, 13]), (11, [5, 7, 11, 12, 13, 74]), (12, [5, 7, 11, 12, 13]), (13, [5, 7, 11, 12, 13]), (14, [5, 7, 11, 118]), (15, [4]), (16, [4])] ?_ | refine W_drw [(0, [0, 1]), (1, [5, 6]), (2, [5, 6, 7, 8]), (3, [5, 6, 7, 8, 9, 10]), (4, [5, 7, 64]), (5, [4]), (6, [5, 7, 11]), (7, [5, 7, 11, 68]), (8, [5, 7, 11]), (9, [5, 7, 11, 12]), (10, [5, 7, 11, 12, 13]), (11, [5, 7, 11, 12, 13, 74]), (12, [5, 7, 11, 12, 13]), (13, [5, 7, 11, 12, 13]), (14, [5, 7, 11, 118]), (15, [4]), (16, [4])] (by kernel_rfl) ?_ | refine W_label ?_ | refine W_skip ?_ | refine W_exit ?_ | refine W_ret ?_ | refine end_at0 ?_) | (with_reducible refine And.intro (fun h => ?_) (fun h => ?_)) | (with_reducible refine And.intro (by omega) ?_)); (try simp only [go_sem, Nat.reduceAdd, Nat.reduceSub, Nat.reduceMul, Nat.reduceDiv, Nat.reduceMod, Nat.reducePow, Nat.reduceLT, Nat.reduceEqDiff, Nat.reduceBEq, Nat.reduceLeDiff, reduceIte, reduceCtorEq, Int.reduceLT, Int.reduceLE, Int.reduceEq, Int.reduceNe, Int.reduceNeg, Int.reduceAdd, Int.reduceSub, Int.reduceMul, Int.reduceToNat, Int.reducePow, Int.reduceDiv, Int.reduceMod, Nat.reduceSucc, hjj, hii, h1, decide_false, encDO, hAj, hne, and_false, false_and, Try.ntmps4, Try.results4, oldS]))
        | fail)
      refine ⟨j + 1, [], by omega, by omega, ?_⟩
      have h2 : ¬ i < j + 1 := by omega
      simp [go_sem, h2]
    · subst h
      have h1 : (j < j) = False := by simp
      repeat' (first
        | (with_reducible first | refine W_seq ?_ | refine W_condT rfl ?_ | refine W_condF rfl ?_ | refine W_tf rfl (fun h => ?_) (fun h => ?_) | refine W_block ?_ | refine W_scope ?_ | refine endQ_ret ?_ | refine endQ_normal ?_)
        | ((with_reducible first | refine hK _ ?_ | refine hK _ _ ?_); clear hK K)
        | ((with_reducible refine And.intro eqt_obj ?_); (try simp only [go_sem, Nat.reduceAdd, Nat.reduceSub, Nat.reduceMul, Nat.reduceDiv, Nat.reduceMod, Nat.reducePow, Nat.reduceLT, Nat.reduceEqDiff, Nat.reduceBEq, Nat.reduceLeDiff, reduceIte, reduceCtorEq, Int.reduceLT, Int.reduceLE, Int.reduceEq, Int.reduceNe, Int.reduceNeg, Int.reduceAdd, Int.reduceSub, Int.reduceMul, Int.reduceToNat, Int.reducePow, Int.reduceDiv, Int.reduceMod, Nat.reduceSucc, hAj]))
        | ((first | (with_reducible first | refine ops_cons (fun K hK => ?_) | refine opsd_cons (fun K hK => ?_) | refine ops_nil ?_ | refine fit_i64 (by omega) ?_ | refine fit_u8 (by omega) ?_ | refine fit_u64 (by omega) ?_ | refine fit_u32 (by omega) ?_ | refine fit_any ?_ | refine quo_nn (by omega) ?_ | refine rem_nn (by omega) ?_ | refine quo_any ?_ | refine rem_any ?_ | refine sh_in (by simp only [IntKind.bits]; omega) ?_) | ((with_reducible refine opsd_nil ?_); refine And.intro (by kernel_rfl) ?_) | with_reducible refine callV_snap ?_ | (with_reducible first | refine slice_old ?_ | refine app_grow ?_ | refine idx_map (by omega) ?_ | refine W_reg [(0, [0, 1]), (1, [5, 6]), (2, [5, 6, 7, 8]), (3, [5, 6, 7, 8, 9, 10]), (4, [5, 7, 64]), (5, [4]), (6, [5, 7, 11]), (7, [5, 7, 11, 68]), (8, [5, 7, 11]), (9, [5, 7, 11, 12]), (10, [5, 7, 11, 12, 13]), (11, [5, 7, 11, 12, 13, 74]), (12, [5, 7, 11, 12, 13]), (13, [5, 7, 11, 12, 13]), (14, [5, 7, 11, 118]), (15, [4]), (16, [4])] ?_ | refine W_drw [(0, [0, 1]), (1, [5, 6]), (2, [5, 6, 7, 8]), (3, [5, 6, 7, 8, 9, 10]), (4, [5, 7, 64]), (5, [4]), (6, [5, 7, 11]), (7, [5, 7, 11, 68]), (8, [5, 7, 11]), (9, [5, 7, 11, 12]), (10, [5, 7, 11, 12, 13]), (11, [5, 7, 11, 12, 13, 74]), (12, [5, 7, 11, 12, 13]), (13, [5, 7, 11, 12, 13]), (14, [5, 7, 11, 118]), (15, [4]), (16, [4])] (by kernel_rfl) ?_ | refine W_label ?_ | refine W_skip ?_ | refine W_exit ?_ | refine W_ret ?_ | refine end_at0 ?_) | (with_reducible refine And.intro (fun h => ?_) (fun h => ?_)) | (with_reducible refine And.intro (by omega) ?_)); (try simp only [go_sem, Nat.reduceAdd, Nat.reduceSub, Nat.reduceMul, Nat.reduceDiv, Nat.reduceMod, Nat.reducePow, Nat.reduceLT, Nat.reduceEqDiff, Nat.reduceBEq, Nat.reduceLeDiff, reduceIte, reduceCtorEq, Int.reduceLT, Int.reduceLE, Int.reduceEq, Int.reduceNe, Int.reduceNeg, Int.reduceAdd, Int.reduceSub, Int.reduceMul, Int.reduceToNat, Int.reducePow, Int.reduceDiv, Int.reduceMod, Nat.reduceSucc, hjj, hii, h1, decide_false, encDO, hAj, Try.ntmps4, Try.results4, oldS]))
        | fail)
      refine ⟨j + 1, [], by omega, by omega, ?_⟩
      simp [go_sem]
    · have h1 : (i < j) = True := by simp [h]
      repeat' (first
        | (with_reducible first | refine W_seq ?_ | refine W_condT rfl ?_ | refine W_condF rfl ?_ | refine W_tf rfl (fun h => ?_) (fun h => ?_) | refine W_block ?_ | refine W_scope ?_ | refine endQ_ret ?_ | refine endQ_normal ?_)
        | ((with_reducible first | refine hK _ ?_ | refine hK _ _ ?_); clear hK K)
        | ((first | (with_reducible first | refine ops_cons (fun K hK => ?_) | refine opsd_cons (fun K hK => ?_) | refine ops_nil ?_ | refine fit_i64 (by omega) ?_ | refine fit_u8 (by omega) ?_ | refine fit_u64 (by omega) ?_ | refine fit_u32 (by omega) ?_ | refine fit_any ?_ | refine quo_nn (by omega) ?_ | refine rem_nn (by omega) ?_ | refine quo_any ?_ | refine rem_any ?_ | refine sh_in (by simp only [IntKind.bits]; omega) ?_) | ((with_reducible refine opsd_nil ?_); refine And.intro (by kernel_rfl) ?_) | with_reducible refine callV_snap ?_ | (with_reducible first | refine slice_old ?_ | refine app_grow ?_ | refine idx_map (by omega) ?_ | refine W_reg [(0, [0, 1]), (1, [5, 6]), (2, [5, 6, 7, 8]), (3, [5, 6, 7, 8, 9, 10]), (4, [5, 7, 64]), (5, [4]), (6, [5, 7, 11]), (7, [5, 7, 11, 68]), (8, [5, 7, 11]), (9, [5, 7, 11, 12]), (10, [5, 7, 11, 12, 13]), (11, [5, 7, 11, 12, 13, 74]), (12, [5, 7, 11, 12, 13]), (13, [5, 7, 11, 12, 13]), (14, [5, 7, 11, 118]), (15, [4]), (16, [4])] ?_ | refine W_drw [(0, [0, 1]), (1, [5, 6]), (2, [5, 6, 7, 8]), (3, [5, 6, 7, 8, 9, 10]), (4, [5, 7, 64]), (5, [4]), (6, [5, 7, 11]), (7, [5, 7, 11, 68]), (8, [5, 7, 11]), (9, [5, 7, 11, 12]), (10, [5, 7, 11, 12, 13]), (11, [5, 7, 11, 12, 13, 74]), (12, [5, 7, 11, 12, 13]), (13, [5, 7, 11, 12, 13]), (14, [5, 7, 11, 118]), (15, [4]), (16, [4])] (by kernel_rfl) ?_ | refine W_label ?_ | refine W_skip ?_ | refine W_exit ?_ | refine W_ret ?_ | refine end_at0 ?_) | (with_reducible refine And.intro (fun h => ?_) (fun h => ?_)) | (with_reducible refine And.intro (by omega) ?_)); (try simp only [go_sem, Nat.reduceAdd, Nat.reduceSub, Nat.reduceMul, Nat.reduceDiv, Nat.reduceMod, Nat.reducePow, Nat.reduceLT, Nat.reduceEqDiff, Nat.reduceBEq, Nat.reduceLeDiff, reduceIte, reduceCtorEq, Int.reduceLT, Int.reduceLE, Int.reduceEq, Int.reduceNe, Int.reduceNeg, Int.reduceAdd, Int.reduceSub, Int.reduceMul, Int.reduceToNat, Int.reducePow, Int.reduceDiv, Int.reduceMod, Nat.reduceSucc, hjj, hii, h1, decide_true, Try.ntmps4, Try.results4, oldS]))
        | fail)
      refine ⟨j + 1, [], by omega, by omega, ?_⟩
      have h2 : i < j + 1 := by omega
      simp [go_sem, h2]
  · have hjj : ¬ (j : Int) < A.length := by omega
    obtain rfl : j = A.length := by omega
    have ub := Try.underlying4
    by_cases hia : i < A.length
    · have h1 : (i < A.length) = True := by simp [hia]
      have hia2 : (i : Int) < A.length := by omega
      repeat' (first
        | (with_reducible first | refine W_seq ?_ | refine W_condT rfl ?_ | refine W_condF rfl ?_ | refine W_tf rfl (fun h => ?_) (fun h => ?_) | refine W_block ?_ | refine W_scope ?_ | refine endQ_ret ?_ | refine endQ_normal ?_)
        | ((with_reducible first | refine hK _ ?_ | refine hK _ _ ?_); clear hK K)
        | ((first | (with_reducible first | refine ops_cons (fun K hK => ?_) | refine opsd_cons (fun K hK => ?_) | refine ops_nil ?_ | refine fit_i64 (by omega) ?_ | refine fit_u8 (by omega) ?_ | refine fit_u64 (by omega) ?_ | refine fit_u32 (by omega) ?_ | refine fit_any ?_ | refine quo_nn (by omega) ?_ | refine rem_nn (by omega) ?_ | refine quo_any ?_ | refine rem_any ?_ | refine sh_in (by simp only [IntKind.bits]; omega) ?_) | ((with_reducible refine opsd_nil ?_); refine And.intro (by kernel_rfl) ?_) | with_reducible refine callV_snap ?_ | (with_reducible first | refine slice_old ?_ | refine app_grow ?_ | refine idx_map (by omega) ?_ | refine W_reg [(0, [0, 1]), (1, [5, 6]), (2, [5, 6, 7, 8]), (3, [5, 6, 7, 8, 9, 10]), (4, [5, 7, 64]), (5, [4]), (6, [5, 7, 11]), (7, [5, 7, 11, 68]), (8, [5, 7, 11]), (9, [5, 7, 11, 12]), (10, [5, 7, 11, 12, 13]), (11, [5, 7, 11, 12, 13, 74]), (12, [5, 7, 11, 12, 13]), (13, [5, 7, 11, 12, 13]), (14, [5, 7, 11, 118]), (15, [4]), (16, [4])] ?_ | refine W_drw [(0, [0, 1]), (1, [5, 6]), (2, [5, 6, 7, 8]), (3, [5, 6, 7, 8, 9, 10]), (4, [5, 7, 64]), (5, [4]), (6, [5, 7, 11]), (7, [5, 7, 11, 68]), (8, [5, 7, 11]), (9, [5, 7, 11, 12]), (10, [5, 7, 11, 12, 13]), (11, [5, 7, 11, 12, 13, 74]), (12, [5, 7, 11, 12, 13]), (13, [5, 7, 11, 12, 13]), (14, [5, 7, 11, 118]), (15, [4]), (16, [4])] (by kernel_rfl) ?_ | refine W_label ?_ | refine W_skip ?_ | refine W_exit ?_ | refine W_ret ?_ | refine end_at0 ?_) | (with_reducible refine And.intro (fun h => ?_) (fun h => ?_)) | (with_reducible refine And.intro (by omega) ?_)); (try simp only [go_sem, Nat.reduceAdd, Nat.reduceSub, Nat.reduceMul, Nat.reduceDiv, Nat.reduceMod, Nat.reducePow, Nat.reduceLT, Nat.reduceEqDiff, Nat.reduceBEq, Nat.reduceLeDiff, reduceIte, reduceCtorEq, Int.reduceLT, Int.reduceLE, Int.reduceEq, Int.reduceNe, Int.reduceNeg, Int.reduceAdd, Int.reduceSub, Int.reduceMul, Int.reduceToNat, Int.reducePow, Int.reduceDiv, Int.reduceMod, Nat.reduceSucc, hjj, hii, h1, hia2, decide_true, ub, bne_self_eq_false, Try.ntmps4, Try.results4, oldS]))
        | fail)
      refine ⟨i + 1, [], by omega, by omega, ?_⟩
      simp [go_sem]
    · have h1 : (i < A.length) = False := by simp; omega
      have hia2 : ¬ (i : Int) < A.length := by omega
      rcases Nat.eq_zero_or_pos A.length with hz | hz
      · have hp : ¬ (0 : Int) < A.length := by omega
        repeat' (first
          | (with_reducible first | refine W_seq ?_ | refine W_condT rfl ?_ | refine W_condF rfl ?_ | refine W_tf rfl (fun h => ?_) (fun h => ?_) | refine W_block ?_ | refine W_scope ?_ | refine endQ_ret ?_ | refine endQ_normal ?_)
          | ((with_reducible first | refine hK _ ?_ | refine hK _ _ ?_); clear hK K)
          | ((first | (with_reducible first | refine ops_cons (fun K hK => ?_) | refine opsd_cons (fun K hK => ?_) | refine ops_nil ?_ | refine fit_i64 (by omega) ?_ | refine fit_u8 (by omega) ?_ | refine fit_u64 (by omega) ?_ | refine fit_u32 (by omega) ?_ | refine fit_any ?_ | refine quo_nn (by omega) ?_ | refine rem_nn (by omega) ?_ | refine quo_any ?_ | refine rem_any ?_ | refine sh_in (by simp only [IntKind.bits]; omega) ?_) | ((with_reducible refine opsd_nil ?_); refine And.intro (by kernel_rfl) ?_) | with_reducible refine callV_snap ?_ | (with_reducible first | refine slice_old ?_ | refine app_grow ?_ | refine idx_map (by omega) ?_ | refine W_reg [(0, [0, 1]), (1, [5, 6]), (2, [5, 6, 7, 8]), (3, [5, 6, 7, 8, 9, 10]), (4, [5, 7, 64]), (5, [4]), (6, [5, 7, 11]), (7, [5, 7, 11, 68]), (8, [5, 7, 11]), (9, [5, 7, 11, 12]), (10, [5, 7, 11, 12, 13]), (11, [5, 7, 11, 12, 13, 74]), (12, [5, 7, 11, 12, 13]), (13, [5, 7, 11, 12, 13]), (14, [5, 7, 11, 118]), (15, [4]), (16, [4])] ?_ | refine W_drw [(0, [0, 1]), (1, [5, 6]), (2, [5, 6, 7, 8]), (3, [5, 6, 7, 8, 9, 10]), (4, [5, 7, 64]), (5, [4]), (6, [5, 7, 11]), (7, [5, 7, 11, 68]), (8, [5, 7, 11]), (9, [5, 7, 11, 12]), (10, [5, 7, 11, 12, 13]), (11, [5, 7, 11, 12, 13, 74]), (12, [5, 7, 11, 12, 13]), (13, [5, 7, 11, 12, 13]), (14, [5, 7, 11, 118]), (15, [4]), (16, [4])] (by kernel_rfl) ?_ | refine W_label ?_ | refine W_skip ?_ | refine W_exit ?_ | refine W_ret ?_ | refine end_at0 ?_) | (with_reducible refine And.intro (fun h => ?_) (fun h => ?_)) | (with_reducible refine And.intro (by omega) ?_)); (try simp only [go_sem, Nat.reduceAdd, Nat.reduceSub, Nat.reduceMul, Nat.reduceDiv, Nat.reduceMod, Nat.reducePow, Nat.reduceLT, Nat.reduceEqDiff, Nat.reduceBEq, Nat.reduceLeDiff, reduceIte, reduceCtorEq, Int.reduceLT, Int.reduceLE, Int.reduceEq, Int.reduceNe, Int.reduceNeg, Int.reduceAdd, Int.reduceSub, Int.reduceMul, Int.reduceToNat, Int.reducePow, Int.reduceDiv, Int.reduceMod, Nat.reduceSucc, hjj, hii, h1, hia2, hp, decide_false, ub, bne_self_eq_false, Try.ntmps4, Try.results4, oldS]))
          | fail)
        refine ⟨i + 1, [], by omega, by omega, ?_⟩
        simp [go_sem]
      · have hp : (0 : Int) < A.length := by omega
        obtain ⟨m, hm⟩ : ∃ m, A.length = m + 1 := ⟨A.length - 1, by omega⟩
        have hm1 : (A.length : Int) - 1 = (m : Int) := by omega
        have hmA : m < A.length := by omega
        obtain ⟨hm2, hAm⟩ := hAget m hmA
        have hag : ¬ (l[i]).2.1 ≤ (l[m]).2.1 := by
          have := List.pairwise_iff_getElem.1 hv.age m i hm2 hil (by omega)
          omega
        repeat' (first
          | (with_reducible first | refine W_seq ?_ | refine W_condT rfl ?_ | refine W_condF rfl ?_ | refine W_tf rfl (fun h => ?_) (fun h => ?_) | refine W_block ?_ | refine W_scope ?_ | refine endQ_ret ?_ | refine endQ_normal ?_)
          | ((with_reducible first | refine hK _ ?_ | refine hK _ _ ?_); clear hK K)
          | ((first | (with_reducible first | refine ops_cons (fun K hK => ?_) | refine opsd_cons (fun K hK => ?_) | refine ops_nil ?_ | refine fit_i64 (by omega) ?_ | refine fit_u8 (by omega) ?_ | refine fit_u64 (by omega) ?_ | refine fit_u32 (by omega) ?_ | refine fit_any ?_ | refine quo_nn (by omega) ?_ | refine rem_nn (by omega) ?_ | refine quo_any ?_ | refine rem_any ?_ | refine sh_in (by simp only [IntKind.bits]; omega) ?_) | ((with_reducible refine opsd_nil ?_); refine And.intro (by kernel_rfl) ?_) | with_reducible refine callV_snap ?_ | (with_reducible first | refine slice_old ?_ | refine app_grow ?_ | refine idx_map (by omega) ?_ | refine W_reg [(0, [0, 1]), (1, [5, 6]), (2, [5, 6, 7, 8]), (3, [5, 6, 7, 8, 9, 10]), (4, [5, 7, 64]), (5, [4]), (6, [5, 7, 11]), (7, [5, 7, 11, 68]), (8, [5, 7, 11]), (9, [5, 7, 11, 12]), (10, [5, 7, 11, 12, 13]), (11, [5, 7, 11, 12, 13, 74]), (12, [5, 7, 11, 12, 13]), (13, [5, 7, 11, 12, 13]), (14, [5, 7, 11, 118]), (15, [4]), (16, [4])] ?_ | refine W_drw [(0, [0, 1]), (1, [5, 6]), (2, [5, 6, 7, 8]), (3, [5, 6, 7, 8, 9, 10]), (4, [5, 7, 64]), (5, [4]), (6, [5, 7, 11]), (7, [5, 7, 11, 68]), (8, [5, 7, 11]), (9, [5, 7, 11, 12]), (10, [5, 7, 11, 12, 13]), (11, [5, 7, 11, 12, 13, 74]), (12, [5, 7, 11, 12, 13]), (13, [5, 7, 11, 12, 13]), (14, [5, 7, 11, 118]), (15, [4]), (16, [4])] (by kernel_rfl) ?_ | refine W_label ?_ | refine W_skip ?_ | refine W_exit ?_ | refine W_ret ?_ | refine end_at0 ?_) | (with_reducible refine And.intro (fun h => ?_) (fun h => ?_)) | (with_reducible refine And.intro (by omega) ?_)); (try simp only [go_sem, Nat.reduceAdd, Nat.reduceSub, Nat.reduceMul, Nat.reduceDiv, Nat.reduceMod, Nat.reducePow, Nat.reduceLT, Nat.reduceEqDiff, Nat.reduceBEq, Nat.reduceLeDiff, reduceIte, reduceCtorEq, Int.reduceLT, Int.reduceLE, Int.reduceEq, Int.reduceNe, Int.reduceNeg, Int.reduceAdd, Int.reduceSub, Int.reduceMul, Int.reduceToNat, Int.reducePow, Int.reduceDiv, Int.reduceMod, Nat.reduceSucc, hjj, hii, h1, hia2, hp, hm1, encDO, hAm, hag, decide_false, ub, bne_self_eq_false, Try.ntmps4, Try.results4, oldS]))
          | fail)
        refine ⟨i + 1, [], by omega, by omega, ?_⟩
        simp [go_sem]
end Go.Proofs.Ytpkiabhlmjnemaa
