/- Fair: of each kind the oldest, by the engine. -/
import Derived.Test.YtpkiabhlmjnemaaShrK
namespace Go.Proofs.Ytpkiabhlmjnemaa
open Go.RowKit
set_option maxRecDepth 100000
set_option linter.unusedSimpArgs false
set_option linter.unusedVariables false

/-- of each kind so many, from the beginning -/
def fr : Int → Int → Int → List O → List O
  | _, _, _, [] => []
  | a, b, c, o :: r => if o.1 = 1 then (if 0 < a then o :: fr (a - 1) b c r else fr a b c r) else if o.1 = 2 then (if 0 < b then o :: fr a (b - 1) c r else fr a b c r) else (if 0 < c then o :: fr a b (c - 1) r else fr a b c r)
def fairL (l : List O) (n : Int) : List O := match shrs l n with
  | [a, b, c] => fr a b c l
  | _ => []
theorem mo_bd (a b : Int) : 0 ≤ mo a b ∧ mo a b ≤ 1 := by unfold mo; split <;> omega
theorem shrs_three {l : List O} (hv : Vl l) {n : Int} (hn : 0 ≤ n) : ∃ a b c, shrs l n = [a, b, c] ∧ 0 ≤ a ∧ a ≤ 1000 ∧ 0 ≤ b ∧ b ≤ 1000 ∧ 0 ≤ c ∧ c ≤ 1000 := by
  unfold shrs
  split
  · exact ⟨0, 0, 0, rfl, by omega⟩
  · have hs := shr_of hv (by omega) hn
    have hl := hv.len
    have b1 := kc_bd l 1; have b2 := kc_bd l 2; have b3 := kc_bd l 3
    have q1 := hs.q0 1; have q2 := hs.q0 2; have q3 := hs.q0 3
    have p1 := hs.q1 1; have p2 := hs.q1 2; have p3 := hs.q1 3
    refine ⟨_, _, _, rfl, ?_⟩
    have h1 := mo_bd (rk1 (sr l n 1) (sr l n 2) (sr l n 3)) (lf l n)
    have h2 := mo_bd (rk2 (sr l n 1) (sr l n 2) (sr l n 3)) (lf l n)
    have h3 := mo_bd (rk3 (sr l n 1) (sr l n 2) (sr l n 3)) (lf l n)
    omega

def FairS : Spec := { rel := fun args ins res outs => ∃ (l : List O) (n : Int), l.length ≤ 1000000 ∧ args = [dO l, iv n] ∧ ins = [] ∧ res = rsl 3 (oldE l n) (fairL l n) ∧ outs = osl 34 3 encDO (oldE l n) (fairL l n) }
abbrev SharesBadS : Spec := SharesS
abbrev SharesOkS : Spec := SharesS
theorem SharesBad_ok : Ok Try.prog 13 SharesBadS := Shares_ok
theorem SharesOk_ok : Ok Try.prog 13 SharesOkS := Shares_ok
set_option maxHeartbeats 4000000 in
theorem Fair_ok : Ok Try.prog 14 FairS := by
  refine fn_ok FairS Try.func14 rfl rfl ?_
  rintro args ins res outs ⟨l, n, hl, rfl, rfl, rfl, rfl⟩
  refine ⟨by simp [Try.ntmps14], fun w0 V Bo mu0 => ?_⟩
  by_cases hc : oldE l n = 0
  case neg =>
    rw [rsl_bad hc, osl_bad hc]
    repeat' (first
      | (with_reducible first | refine W_seq ?_ | refine W_condT rfl ?_ | refine W_condF rfl ?_ | refine W_tf rfl (fun h => ?_) (fun h => ?_) | refine W_block ?_ | refine W_scope ?_ | refine endQ_ret ?_ | refine endQ_normal ?_)
      | ((with_reducible first | refine hK _ ?_ | refine hK _ _ ?_); clear hK K)
      | ((first | (with_reducible first | refine ops_cons (fun K hK => ?_) | refine opsd_cons (fun K hK => ?_) | refine ops_nil ?_ | refine fit_i64 (by omega) ?_ | refine fit_u8 (by omega) ?_ | refine fit_u64 (by omega) ?_ | refine fit_u32 (by omega) ?_ | refine fit_any ?_ | refine quo_nn (by omega) ?_ | refine rem_nn (by omega) ?_ | refine quo_any ?_ | refine rem_any ?_ | refine sh_in (by simp only [IntKind.bits]; omega) ?_) | ((with_reducible refine opsd_nil ?_); refine And.intro (by kernel_rfl) ?_) | with_reducible refine callV_snap ?_ | ((with_reducible refine call_go SharesBadS SharesBad_ok ?_); refine ⟨(by first | exact alOk_nil _ | exact alOk_f rfl), _, _, SharesBad_at l n hl hc, ?_⟩) | (with_reducible first | refine slice_old ?_ | refine app_grow ?_ | refine idx_map (by omega) ?_ | refine W_reg [(0, [0, 1]), (1, [0, 6, 7]), (2, [0, 6, 7, 18]), (3, [4, 5]), (4, [0, 6, 8]), (5, [6, 8, 20, 21, 22]), (6, [6, 8, 20, 21, 22, 23]), (7, [6, 8, 10, 20, 21, 22]), (8, [6, 8, 10, 20, 21, 22, 32]), (9, [6, 8, 10, 20, 21, 22]), (10, [6, 8, 20, 21, 22]), (11, [6, 8, 20, 21, 22]), (12, [4, 5])] ?_ | refine W_drw [(0, [0, 1]), (1, [0, 6, 7]), (2, [0, 6, 7, 18]), (3, [4, 5]), (4, [0, 6, 8]), (5, [6, 8, 20, 21, 22]), (6, [6, 8, 20, 21, 22, 23]), (7, [6, 8, 10, 20, 21, 22]), (8, [6, 8, 10, 20, 21, 22, 32]), (9, [6, 8, 10, 20, 21, 22]), (10, [6, 8, 20, 21, 22]), (11, [6, 8, 20, 21, 22]), (12, [4, 5])] (by kernel_rfl) ?_ | refine W_label ?_ | refine W_skip ?_ | refine W_exit ?_ | refine W_ret ?_ | refine end_at0 ?_) | (with_reducible refine And.intro (fun h => ?_) (fun h => ?_)) | (with_reducible refine And.intro (by omega) ?_)); (try simp only [go_sem, Nat.reduceAdd, Nat.reduceSub, Nat.reduceMul, Nat.reduceDiv, Nat.reduceMod, Nat.reducePow, Nat.reduceLT, Nat.reduceEqDiff, Nat.reduceBEq, Nat.reduceLeDiff, reduceIte, reduceCtorEq, Int.reduceLT, Int.reduceLE, Int.reduceEq, Int.reduceNe, Int.reduceNeg, Int.reduceAdd, Int.reduceSub, Int.reduceMul, Int.reduceToNat, Int.reducePow, Int.reduceDiv, Int.reduceMod, Nat.reduceSucc, hc, Try.ntmps14, Try.results14, FairS]))
      | fail)
  obtain ⟨hck, hn⟩ := oldE_zero hc
  have hv := chk_val hck
  obtain ⟨A, B, C, hs, bd⟩ := shrs_three hv hn
  have hf : fairL l n = fr A B C l := by unfold fairL; rw [hs]
  rw [hc, hf, rsl_ok, osl_ok]
  have hc3 : ((3 : Nat) : Int) = 3 := rfl
  repeat' (first
    | (with_reducible first | refine W_seq ?_ | refine W_condT rfl ?_ | refine W_condF rfl ?_ | refine W_tf rfl (fun h => ?_) (fun h => ?_) | refine W_block ?_ | refine W_scope ?_ | refine endQ_ret ?_ | refine endQ_normal ?_)
    | ((with_reducible first | refine hK _ ?_ | refine hK _ _ ?_); clear hK K)
    | ((first | (with_reducible first | refine ops_cons (fun K hK => ?_) | refine opsd_cons (fun K hK => ?_) | refine ops_nil ?_ | refine fit_i64 (by omega) ?_ | refine fit_u8 (by omega) ?_ | refine fit_u64 (by omega) ?_ | refine fit_u32 (by omega) ?_ | refine fit_any ?_ | refine quo_nn (by omega) ?_ | refine rem_nn (by omega) ?_ | refine quo_any ?_ | refine rem_any ?_ | refine sh_in (by simp only [IntKind.bits]; omega) ?_) | ((with_reducible refine opsd_nil ?_); refine And.intro (by kernel_rfl) ?_) | with_reducible refine callV_snap ?_ | ((with_reducible refine call_go SharesOkS SharesOk_ok ?_); refine ⟨(by first | exact alOk_nil _ | exact alOk_f rfl), _, _, SharesOk_at l n hl hc, ?_⟩) | (with_reducible first | refine slice_old ?_ | refine app_grow ?_ | refine idx_map (by omega) ?_ | refine W_reg [(0, [0, 1]), (1, [0, 6, 7]), (2, [0, 6, 7, 18]), (3, [4, 5]), (4, [0, 6, 8]), (5, [6, 8, 20, 21, 22]), (6, [6, 8, 20, 21, 22, 23]), (7, [6, 8, 10, 20, 21, 22]), (8, [6, 8, 10, 20, 21, 22, 32]), (9, [6, 8, 10, 20, 21, 22]), (10, [6, 8, 20, 21, 22]), (11, [6, 8, 20, 21, 22]), (12, [4, 5])] ?_ | refine W_drw [(0, [0, 1]), (1, [0, 6, 7]), (2, [0, 6, 7, 18]), (3, [4, 5]), (4, [0, 6, 8]), (5, [6, 8, 20, 21, 22]), (6, [6, 8, 20, 21, 22, 23]), (7, [6, 8, 10, 20, 21, 22]), (8, [6, 8, 10, 20, 21, 22, 32]), (9, [6, 8, 10, 20, 21, 22]), (10, [6, 8, 20, 21, 22]), (11, [6, 8, 20, 21, 22]), (12, [4, 5])] (by kernel_rfl) ?_ | refine W_label ?_ | refine W_skip ?_ | refine W_exit ?_ | refine W_ret ?_ | refine end_at0 ?_) | (with_reducible refine And.intro (fun h => ?_) (fun h => ?_)) | (with_reducible refine And.intro (by omega) ?_)); (try simp only [go_sem, Nat.reduceAdd, Nat.reduceSub, Nat.reduceMul, Nat.reduceDiv, Nat.reduceMod, Nat.reducePow, Nat.reduceLT, Nat.reduceEqDiff, Nat.reduceBEq, Nat.reduceLeDiff, reduceIte, reduceCtorEq, Int.reduceLT, Int.reduceLE, Int.reduceEq, Int.reduceNe, Int.reduceNeg, Int.reduceAdd, Int.reduceSub, Int.reduceMul, Int.reduceToNat, Int.reducePow, Int.reduceDiv, Int.reduceMod, Nat.reduceSucc, hs, encDI, Try.ntmps14, Try.results14, FairS]))
    | fail)
  refine W_adopt 8 34 3 (by decide) (by simp [go_sem]) ?_
  refine W_loop (fun x : Nat × (Int × Int × Int) × List O => ⟨[(6, .row 0 1 0 3), (8, .row 1 3 0 x.2.2.length), (20, dO l), (21, iv l.length), (22, iv x.1)], [some (.rows 3 1 [[.int .i64 x.2.1.1], [.int .i64 x.2.1.2.1], [.int .i64 x.2.1.2.2]]), some (.rows 34 3 (x.2.2.map encDO))]⟩)
    (fun x => x.1 ≤ l.length ∧ x.2.2.length ≤ x.1 ∧ (0 ≤ x.2.1.1 ∧ x.2.1.1 ≤ 1000 ∧ 0 ≤ x.2.1.2.1 ∧ x.2.1.2.1 ≤ 1000 ∧ 0 ≤ x.2.1.2.2 ∧ x.2.1.2.2 ≤ 1000) ∧ x.2.2 ++ fr x.2.1.1 x.2.1.2.1 x.2.1.2.2 (l.drop x.1) = fr A B C l) (fun x => l.length - x.1) (0, (A, B, C), []) ⟨Nat.zero_le _, Nat.zero_le _, bd, rfl⟩ [0, 1] ?_ ?_
  · simp [go_sem]
  rintro ⟨k, ⟨a, b, c⟩, acc⟩ ⟨hk, hal, hb, hfr⟩
  dsimp only at hk hal hb hfr
  by_cases hlt : k < l.length
  · have hki : (k : Int) < l.length := by omega
    rw [drop_get l k hlt] at hfr
    have hrow : ∀ r ∈ acc.map encDO, r.length = 3 := encO.rows acc
    rcases kind3 (hv.one _ (List.getElem_mem hlt)) with h1 | h1 | h1
    · by_cases hp : 0 < a
      · simp only [fr, h1, hp, if_true] at hfr
        repeat' (first
          | (with_reducible first | refine W_seq ?_ | refine W_condT rfl ?_ | refine W_condF rfl ?_ | refine W_tf rfl (fun h => ?_) (fun h => ?_) | refine W_block ?_ | refine W_scope ?_ | refine endQ_ret ?_ | refine endQ_normal ?_)
          | ((with_reducible first | refine hK _ ?_ | refine hK _ _ ?_); clear hK K)
          | ((with_reducible refine And.intro (encO.rows _) ?_))
          | ((first | (with_reducible first | refine ops_cons (fun K hK => ?_) | refine opsd_cons (fun K hK => ?_) | refine ops_nil ?_ | refine fit_i64 (by omega) ?_ | refine fit_u8 (by omega) ?_ | refine fit_u64 (by omega) ?_ | refine fit_u32 (by omega) ?_ | refine fit_any ?_ | refine quo_nn (by omega) ?_ | refine rem_nn (by omega) ?_ | refine quo_any ?_ | refine rem_any ?_ | refine sh_in (by simp only [IntKind.bits]; omega) ?_) | ((with_reducible refine opsd_nil ?_); refine And.intro (by kernel_rfl) ?_) | with_reducible refine callV_snap ?_ | (with_reducible first | refine slice_old ?_ | refine app_grow ?_ | refine idx_map (by omega) ?_ | refine W_reg [(0, [0, 1]), (1, [0, 6, 7]), (2, [0, 6, 7, 18]), (3, [4, 5]), (4, [0, 6, 8]), (5, [6, 8, 20, 21, 22]), (6, [6, 8, 20, 21, 22, 23]), (7, [6, 8, 10, 20, 21, 22]), (8, [6, 8, 10, 20, 21, 22, 32]), (9, [6, 8, 10, 20, 21, 22]), (10, [6, 8, 20, 21, 22]), (11, [6, 8, 20, 21, 22]), (12, [4, 5])] ?_ | refine W_drw [(0, [0, 1]), (1, [0, 6, 7]), (2, [0, 6, 7, 18]), (3, [4, 5]), (4, [0, 6, 8]), (5, [6, 8, 20, 21, 22]), (6, [6, 8, 20, 21, 22, 23]), (7, [6, 8, 10, 20, 21, 22]), (8, [6, 8, 10, 20, 21, 22, 32]), (9, [6, 8, 10, 20, 21, 22]), (10, [6, 8, 20, 21, 22]), (11, [6, 8, 20, 21, 22]), (12, [4, 5])] (by kernel_rfl) ?_ | refine W_label ?_ | refine W_skip ?_ | refine W_exit ?_ | refine W_ret ?_ | refine end_at0 ?_) | (with_reducible refine And.intro (fun h => ?_) (fun h => ?_)) | (with_reducible refine And.intro (by omega) ?_)); (try simp only [go_sem, Nat.reduceAdd, Nat.reduceSub, Nat.reduceMul, Nat.reduceDiv, Nat.reduceMod, Nat.reducePow, Nat.reduceLT, Nat.reduceEqDiff, Nat.reduceBEq, Nat.reduceLeDiff, reduceIte, reduceCtorEq, Int.reduceLT, Int.reduceLE, Int.reduceEq, Int.reduceNe, Int.reduceNeg, Int.reduceAdd, Int.reduceSub, Int.reduceMul, Int.reduceToNat, Int.reducePow, Int.reduceDiv, Int.reduceMod, Nat.reduceSucc, encDO, hki, h1, hp, hc3, exists_and_left, Try.ntmps14, Try.results14, FairS]))
          | fail)
        refine ⟨(k + 1, (a - 1, b, c), acc ++ [l[k]]), ⟨by dsimp only; omega, by simp; omega, by dsimp only; omega, by simpa using hfr⟩, by dsimp only; omega, [0, 4], ?_⟩
        simp [go_sem, encDO, h1]
      · simp only [fr, h1, hp, if_true, if_false] at hfr
        repeat' (first
          | (with_reducible first | refine W_seq ?_ | refine W_condT rfl ?_ | refine W_condF rfl ?_ | refine W_tf rfl (fun h => ?_) (fun h => ?_) | refine W_block ?_ | refine W_scope ?_ | refine endQ_ret ?_ | refine endQ_normal ?_)
          | ((with_reducible first | refine hK _ ?_ | refine hK _ _ ?_); clear hK K)
          | ((first | (with_reducible first | refine ops_cons (fun K hK => ?_) | refine opsd_cons (fun K hK => ?_) | refine ops_nil ?_ | refine fit_i64 (by omega) ?_ | refine fit_u8 (by omega) ?_ | refine fit_u64 (by omega) ?_ | refine fit_u32 (by omega) ?_ | refine fit_any ?_ | refine quo_nn (by omega) ?_ | refine rem_nn (by omega) ?_ | refine quo_any ?_ | refine rem_any ?_ | refine sh_in (by simp only [IntKind.bits]; omega) ?_) | ((with_reducible refine opsd_nil ?_); refine And.intro (by kernel_rfl) ?_) | with_reducible refine callV_snap ?_ | (with_reducible first | refine slice_old ?_ | refine app_grow ?_ | refine idx_map (by omega) ?_ | refine W_reg [(0, [0, 1]), (1, [0, 6, 7]), (2, [0, 6, 7, 18]), (3, [4, 5]), (4, [0, 6, 8]), (5, [6, 8, 20, 21, 22]), (6, [6, 8, 20, 21, 22, 23]), (7, [6, 8, 10, 20, 21, 22]), (8, [6, 8, 10, 20, 21, 22, 32]), (9, [6, 8, 10, 20, 21, 22]), (10, [6, 8, 20, 21, 22]), (11, [6, 8, 20, 21, 22]), (12, [4, 5])] ?_ | refine W_drw [(0, [0, 1]), (1, [0, 6, 7]), (2, [0, 6, 7, 18]), (3, [4, 5]), (4, [0, 6, 8]), (5, [6, 8, 20, 21, 22]), (6, [6, 8, 20, 21, 22, 23]), (7, [6, 8, 10, 20, 21, 22]), (8, [6, 8, 10, 20, 21, 22, 32]), (9, [6, 8, 10, 20, 21, 22]), (10, [6, 8, 20, 21, 22]), (11, [6, 8, 20, 21, 22]), (12, [4, 5])] (by kernel_rfl) ?_ | refine W_label ?_ | refine W_skip ?_ | refine W_exit ?_ | refine W_ret ?_ | refine end_at0 ?_) | (with_reducible refine And.intro (fun h => ?_) (fun h => ?_)) | (with_reducible refine And.intro (by omega) ?_)); (try simp only [go_sem, Nat.reduceAdd, Nat.reduceSub, Nat.reduceMul, Nat.reduceDiv, Nat.reduceMod, Nat.reducePow, Nat.reduceLT, Nat.reduceEqDiff, Nat.reduceBEq, Nat.reduceLeDiff, reduceIte, reduceCtorEq, Int.reduceLT, Int.reduceLE, Int.reduceEq, Int.reduceNe, Int.reduceNeg, Int.reduceAdd, Int.reduceSub, Int.reduceMul, Int.reduceToNat, Int.reducePow, Int.reduceDiv, Int.reduceMod, Nat.reduceSucc, encDO, hki, h1, hp, hc3, exists_and_left, Try.ntmps14, Try.results14, FairS]))
          | fail)
        refine ⟨(k + 1, (a, b, c), acc), ⟨by dsimp only; omega, by dsimp only; omega, by dsimp only; omega, by simpa using hfr⟩, by dsimp only; omega, [0, 1], ?_⟩
        simp [go_sem]
    · have h21 : ¬ (2 : Int) = 1 := by decide
      by_cases hp : 0 < b
      · simp only [fr, h1, hp, h21, if_true, if_false] at hfr
        repeat' (first
          | (with_reducible first | refine W_seq ?_ | refine W_condT rfl ?_ | refine W_condF rfl ?_ | refine W_tf rfl (fun h => ?_) (fun h => ?_) | refine W_block ?_ | refine W_scope ?_ | refine endQ_ret ?_ | refine endQ_normal ?_)
          | ((with_reducible first | refine hK _ ?_ | refine hK _ _ ?_); clear hK K)
          | ((with_reducible refine And.intro (encO.rows _) ?_))
          | ((first | (with_reducible first | refine ops_cons (fun K hK => ?_) | refine opsd_cons (fun K hK => ?_) | refine ops_nil ?_ | refine fit_i64 (by omega) ?_ | refine fit_u8 (by omega) ?_ | refine fit_u64 (by omega) ?_ | refine fit_u32 (by omega) ?_ | refine fit_any ?_ | refine quo_nn (by omega) ?_ | refine rem_nn (by omega) ?_ | refine quo_any ?_ | refine rem_any ?_ | refine sh_in (by simp only [IntKind.bits]; omega) ?_) | ((with_reducible refine opsd_nil ?_); refine And.intro (by kernel_rfl) ?_) | with_reducible refine callV_snap ?_ | (with_reducible first | refine slice_old ?_ | refine app_grow ?_ | refine idx_map (by omega) ?_ | refine W_reg [(0, [0, 1]), (1, [0, 6, 7]), (2, [0, 6, 7, 18]), (3, [4, 5]), (4, [0, 6, 8]), (5, [6, 8, 20, 21, 22]), (6, [6, 8, 20, 21, 22, 23]), (7, [6, 8, 10, 20, 21, 22]), (8, [6, 8, 10, 20, 21, 22, 32]), (9, [6, 8, 10, 20, 21, 22]), (10, [6, 8, 20, 21, 22]), (11, [6, 8, 20, 21, 22]), (12, [4, 5])] ?_ | refine W_drw [(0, [0, 1]), (1, [0, 6, 7]), (2, [0, 6, 7, 18]), (3, [4, 5]), (4, [0, 6, 8]), (5, [6, 8, 20, 21, 22]), (6, [6, 8, 20, 21, 22, 23]), (7, [6, 8, 10, 20, 21, 22]), (8, [6, 8, 10, 20, 21, 22, 32]), (9, [6, 8, 10, 20, 21, 22]), (10, [6, 8, 20, 21, 22]), (11, [6, 8, 20, 21, 22]), (12, [4, 5])] (by kernel_rfl) ?_ | refine W_label ?_ | refine W_skip ?_ | refine W_exit ?_ | refine W_ret ?_ | refine end_at0 ?_) | (with_reducible refine And.intro (fun h => ?_) (fun h => ?_)) | (with_reducible refine And.intro (by omega) ?_)); (try simp only [go_sem, Nat.reduceAdd, Nat.reduceSub, Nat.reduceMul, Nat.reduceDiv, Nat.reduceMod, Nat.reducePow, Nat.reduceLT, Nat.reduceEqDiff, Nat.reduceBEq, Nat.reduceLeDiff, reduceIte, reduceCtorEq, Int.reduceLT, Int.reduceLE, Int.reduceEq, Int.reduceNe, Int.reduceNeg, Int.reduceAdd, Int.reduceSub, Int.reduceMul, Int.reduceToNat, Int.reducePow, Int.reduceDiv, Int.reduceMod, Nat.reduceSucc, encDO, hki, h1, hp, hc3, exists_and_left, Try.ntmps14, Try.results14, FairS]))
          | fail)
        refine ⟨(k + 1, (a, b - 1, c), acc ++ [l[k]]), ⟨by dsimp only; omega, by simp; omega, by dsimp only; omega, by simpa using hfr⟩, by dsimp only; omega, [0, 4], ?_⟩
        simp [go_sem, encDO, h1]
      · simp only [fr, h1, hp, h21, if_true, if_false] at hfr
        repeat' (first
          | (with_reducible first | refine W_seq ?_ | refine W_condT rfl ?_ | refine W_condF rfl ?_ | refine W_tf rfl (fun h => ?_) (fun h => ?_) | refine W_block ?_ | refine W_scope ?_ | refine endQ_ret ?_ | refine endQ_normal ?_)
          | ((with_reducible first | refine hK _ ?_ | refine hK _ _ ?_); clear hK K)
          | ((first | (with_reducible first | refine ops_cons (fun K hK => ?_) | refine opsd_cons (fun K hK => ?_) | refine ops_nil ?_ | refine fit_i64 (by omega) ?_ | refine fit_u8 (by omega) ?_ | refine fit_u64 (by omega) ?_ | refine fit_u32 (by omega) ?_ | refine fit_any ?_ | refine quo_nn (by omega) ?_ | refine rem_nn (by omega) ?_ | refine quo_any ?_ | refine rem_any ?_ | refine sh_in (by simp only [IntKind.bits]; omega) ?_) | ((with_reducible refine opsd_nil ?_); refine And.intro (by kernel_rfl) ?_) | with_reducible refine callV_snap ?_ | (with_reducible first | refine slice_old ?_ | refine app_grow ?_ | refine idx_map (by omega) ?_ | refine W_reg [(0, [0, 1]), (1, [0, 6, 7]), (2, [0, 6, 7, 18]), (3, [4, 5]), (4, [0, 6, 8]), (5, [6, 8, 20, 21, 22]), (6, [6, 8, 20, 21, 22, 23]), (7, [6, 8, 10, 20, 21, 22]), (8, [6, 8, 10, 20, 21, 22, 32]), (9, [6, 8, 10, 20, 21, 22]), (10, [6, 8, 20, 21, 22]), (11, [6, 8, 20, 21, 22]), (12, [4, 5])] ?_ | refine W_drw [(0, [0, 1]), (1, [0, 6, 7]), (2, [0, 6, 7, 18]), (3, [4, 5]), (4, [0, 6, 8]), (5, [6, 8, 20, 21, 22]), (6, [6, 8, 20, 21, 22, 23]), (7, [6, 8, 10, 20, 21, 22]), (8, [6, 8, 10, 20, 21, 22, 32]), (9, [6, 8, 10, 20, 21, 22]), (10, [6, 8, 20, 21, 22]), (11, [6, 8, 20, 21, 22]), (12, [4, 5])] (by kernel_rfl) ?_ | refine W_label ?_ | refine W_skip ?_ | refine W_exit ?_ | refine W_ret ?_ | refine end_at0 ?_) | (with_reducible refine And.intro (fun h => ?_) (fun h => ?_)) | (with_reducible refine And.intro (by omega) ?_)); (try simp only [go_sem, Nat.reduceAdd, Nat.reduceSub, Nat.reduceMul, Nat.reduceDiv, Nat.reduceMod, Nat.reducePow, Nat.reduceLT, Nat.reduceEqDiff, Nat.reduceBEq, Nat.reduceLeDiff, reduceIte, reduceCtorEq, Int.reduceLT, Int.reduceLE, Int.reduceEq, Int.reduceNe, Int.reduceNeg, Int.reduceAdd, Int.reduceSub, Int.reduceMul, Int.reduceToNat, Int.reducePow, Int.reduceDiv, Int.reduceMod, Nat.reduceSucc, encDO, hki, h1, hp, hc3, exists_and_left, Try.ntmps14, Try.results14, FairS]))
          | fail)
        refine ⟨(k + 1, (a, b, c), acc), ⟨by dsimp only; omega, by dsimp only; omega, by dsimp only; omega, by simpa using hfr⟩, by dsimp only; omega, [0, 1], ?_⟩
        simp [go_sem]
    · have h31 : ¬ (3 : Int) = 1 := by decide
      have h32 : ¬ (3 : Int) = 2 := by decide
      by_cases hp : 0 < c
      · simp only [fr, h1, hp, h31, h32, if_true, if_false] at hfr
        repeat' (first
          | (with_reducible first | refine W_seq ?_ | refine W_condT rfl ?_ | refine W_condF rfl ?_ | refine W_tf rfl (fun h => ?_) (fun h => ?_) | refine W_block ?_ | refine W_scope ?_ | refine endQ_ret ?_ | refine endQ_normal ?_)
          | ((with_reducible first | refine hK _ ?_ | refine hK _ _ ?_); clear hK K)
          | ((with_reducible refine And.intro (encO.rows _) ?_))
          | ((first | (with_reducible first | refine ops_cons (fun K hK => ?_) | refine opsd_cons (fun K hK => ?_) | refine ops_nil ?_ | refine fit_i64 (by omega) ?_ | refine fit_u8 (by omega) ?_ | refine fit_u64 (by omega) ?_ | refine fit_u32 (by omega) ?_ | refine fit_any ?_ | refine quo_nn (by omega) ?_ | refine rem_nn (by omega) ?_ | refine quo_any ?_ | refine rem_any ?_ | refine sh_in (by simp only [IntKind.bits]; omega) ?_) | ((with_reducible refine opsd_nil ?_); refine And.intro (by kernel_rfl) ?_) | with_reducible refine callV_snap ?_ | (with_reducible first | refine slice_old ?_ | refine app_grow ?_ | refine idx_map (by omega) ?_ | refine W_reg [(0, [0, 1]), (1, [0, 6, 7]), (2, [0, 6, 7, 18]), (3, [4, 5]), (4, [0, 6, 8]), (5, [6, 8, 20, 21, 22]), (6, [6, 8, 20, 21, 22, 23]), (7, [6, 8, 10, 20, 21, 22]), (8, [6, 8, 10, 20, 21, 22, 32]), (9, [6, 8, 10, 20, 21, 22]), (10, [6, 8, 20, 21, 22]), (11, [6, 8, 20, 21, 22]), (12, [4, 5])] ?_ | refine W_drw [(0, [0, 1]), (1, [0, 6, 7]), (2, [0, 6, 7, 18]), (3, [4, 5]), (4, [0, 6, 8]), (5, [6, 8, 20, 21, 22]), (6, [6, 8, 20, 21, 22, 23]), (7, [6, 8, 10, 20, 21, 22]), (8, [6, 8, 10, 20, 21, 22, 32]), (9, [6, 8, 10, 20, 21, 22]), (10, [6, 8, 20, 21, 22]), (11, [6, 8, 20, 21, 22]), (12, [4, 5])] (by kernel_rfl) ?_ | refine W_label ?_ | refine W_skip ?_ | refine W_exit ?_ | refine W_ret ?_ | refine end_at0 ?_) | (with_reducible refine And.intro (fun h => ?_) (fun h => ?_)) | (with_reducible refine And.intro (by omega) ?_)); (try simp only [go_sem, Nat.reduceAdd, Nat.reduceSub, Nat.reduceMul, Nat.reduceDiv, Nat.reduceMod, Nat.reducePow, Nat.reduceLT, Nat.reduceEqDiff, Nat.reduceBEq, Nat.reduceLeDiff, reduceIte, reduceCtorEq, Int.reduceLT, Int.reduceLE, Int.reduceEq, Int.reduceNe, Int.reduceNeg, Int.reduceAdd, Int.reduceSub, Int.reduceMul, Int.reduceToNat, Int.reducePow, Int.reduceDiv, Int.reduceMod, Nat.reduceSucc, encDO, hki, h1, hp, hc3, exists_and_left, Try.ntmps14, Try.results14, FairS]))
          | fail)
        refine ⟨(k + 1, (a, b, c - 1), acc ++ [l[k]]), ⟨by dsimp only; omega, by simp; omega, by dsimp only; omega, by simpa using hfr⟩, by dsimp only; omega, [0, 4], ?_⟩
        simp [go_sem, encDO, h1]
      · simp only [fr, h1, hp, h31, h32, if_true, if_false] at hfr
        repeat' (first
          | (with_reducible first | refine W_seq ?_ | refine W_condT rfl ?_ | refine W_condF rfl ?_ | refine W_tf rfl (fun h => ?_) (fun h => ?_) | refine W_block ?_ | refine W_scope ?_ | refine endQ_ret ?_ | refine endQ_normal ?_)
          | ((with_reducible first | refine hK _ ?_ | refine hK _ _ ?_); clear hK K)
          | ((first | (with_reducible first | refine ops_cons (fun K hK => ?_) | refine opsd_cons (fun K hK => ?_) | refine ops_nil ?_ | refine fit_i64 (by omega) ?_ | refine fit_u8 (by omega) ?_ | refine fit_u64 (by omega) ?_ | refine fit_u32 (by omega) ?_ | refine fit_any ?_ | refine quo_nn (by omega) ?_ | refine rem_nn (by omega) ?_ | refine quo_any ?_ | refine rem_any ?_ | refine sh_in (by simp only [IntKind.bits]; omega) ?_) | ((with_reducible refine opsd_nil ?_); refine And.intro (by kernel_rfl) ?_) | with_reducible refine callV_snap ?_ | (with_reducible first | refine slice_old ?_ | refine app_grow ?_ | refine idx_map (by omega) ?_ | refine W_reg [(0, [0, 1]), (1, [0, 6, 7]), (2, [0, 6, 7, 18]), (3, [4, 5]), (4, [0, 6, 8]), (5, [6, 8, 20, 21, 22]), (6, [6, 8, 20, 21, 22, 23]), (7, [6, 8, 10, 20, 21, 22]), (8, [6, 8, 10, 20, 21, 22, 32]), (9, [6, 8, 10, 20, 21, 22]), (10, [6, 8, 20, 21, 22]), (11, [6, 8, 20, 21, 22]), (12, [4, 5])] ?_ | refine W_drw [(0, [0, 1]), (1, [0, 6, 7]), (2, [0, 6, 7, 18]), (3, [4, 5]), (4, [0, 6, 8]), (5, [6, 8, 20, 21, 22]), (6, [6, 8, 20, 21, 22, 23]), (7, [6, 8, 10, 20, 21, 22]), (8, [6, 8, 10, 20, 21, 22, 32]), (9, [6, 8, 10, 20, 21, 22]), (10, [6, 8, 20, 21, 22]), (11, [6, 8, 20, 21, 22]), (12, [4, 5])] (by kernel_rfl) ?_ | refine W_label ?_ | refine W_skip ?_ | refine W_exit ?_ | refine W_ret ?_ | refine end_at0 ?_) | (with_reducible refine And.intro (fun h => ?_) (fun h => ?_)) | (with_reducible refine And.intro (by omega) ?_)); (try simp only [go_sem, Nat.reduceAdd, Nat.reduceSub, Nat.reduceMul, Nat.reduceDiv, Nat.reduceMod, Nat.reducePow, Nat.reduceLT, Nat.reduceEqDiff, Nat.reduceBEq, Nat.reduceLeDiff, reduceIte, reduceCtorEq, Int.reduceLT, Int.reduceLE, Int.reduceEq, Int.reduceNe, Int.reduceNeg, Int.reduceAdd, Int.reduceSub, Int.reduceMul, Int.reduceToNat, Int.reducePow, Int.reduceDiv, Int.reduceMod, Nat.reduceSucc, encDO, hki, h1, hp, hc3, exists_and_left, Try.ntmps14, Try.results14, FairS]))
          | fail)
        refine ⟨(k + 1, (a, b, c), acc), ⟨by dsimp only; omega, by dsimp only; omega, by dsimp only; omega, by simpa using hfr⟩, by dsimp only; omega, [0, 1], ?_⟩
        simp [go_sem]
  · have hki : ¬ (k : Int) < l.length := by omega
    rw [List.drop_eq_nil_of_le (by omega)] at hfr
    simp only [fr, List.append_nil] at hfr
    rw [← hfr]
    have hfl := encO.flat acc
    repeat' (first
      | (with_reducible first | refine W_seq ?_ | refine W_condT rfl ?_ | refine W_condF rfl ?_ | refine W_tf rfl (fun h => ?_) (fun h => ?_) | refine W_block ?_ | refine W_scope ?_ | refine endQ_ret ?_ | refine endQ_normal ?_)
      | ((with_reducible first | refine hK _ ?_ | refine hK _ _ ?_); clear hK K)
      | ((first | (with_reducible first | refine ops_cons (fun K hK => ?_) | refine opsd_cons (fun K hK => ?_) | refine ops_nil ?_ | refine fit_i64 (by omega) ?_ | refine fit_u8 (by omega) ?_ | refine fit_u64 (by omega) ?_ | refine fit_u32 (by omega) ?_ | refine fit_any ?_ | refine quo_nn (by omega) ?_ | refine rem_nn (by omega) ?_ | refine quo_any ?_ | refine rem_any ?_ | refine sh_in (by simp only [IntKind.bits]; omega) ?_) | ((with_reducible refine opsd_nil ?_); refine And.intro (by kernel_rfl) ?_) | with_reducible refine callV_snap ?_ | (with_reducible first | refine slice_old ?_ | refine app_grow ?_ | refine idx_map (by omega) ?_ | refine W_reg [(0, [0, 1]), (1, [0, 6, 7]), (2, [0, 6, 7, 18]), (3, [4, 5]), (4, [0, 6, 8]), (5, [6, 8, 20, 21, 22]), (6, [6, 8, 20, 21, 22, 23]), (7, [6, 8, 10, 20, 21, 22]), (8, [6, 8, 10, 20, 21, 22, 32]), (9, [6, 8, 10, 20, 21, 22]), (10, [6, 8, 20, 21, 22]), (11, [6, 8, 20, 21, 22]), (12, [4, 5])] ?_ | refine W_drw [(0, [0, 1]), (1, [0, 6, 7]), (2, [0, 6, 7, 18]), (3, [4, 5]), (4, [0, 6, 8]), (5, [6, 8, 20, 21, 22]), (6, [6, 8, 20, 21, 22, 23]), (7, [6, 8, 10, 20, 21, 22]), (8, [6, 8, 10, 20, 21, 22, 32]), (9, [6, 8, 10, 20, 21, 22]), (10, [6, 8, 20, 21, 22]), (11, [6, 8, 20, 21, 22]), (12, [4, 5])] (by kernel_rfl) ?_ | refine W_label ?_ | refine W_skip ?_ | refine W_exit ?_ | refine end_at0 ?_) | (with_reducible refine And.intro (fun h => ?_) (fun h => ?_)) | (with_reducible refine And.intro (by omega) ?_)); (try simp only [go_sem, Nat.reduceAdd, Nat.reduceSub, Nat.reduceMul, Nat.reduceDiv, Nat.reduceMod, Nat.reducePow, Nat.reduceLT, Nat.reduceEqDiff, Nat.reduceBEq, Nat.reduceLeDiff, reduceIte, reduceCtorEq, Int.reduceLT, Int.reduceLE, Int.reduceEq, Int.reduceNe, Int.reduceNeg, Int.reduceAdd, Int.reduceSub, Int.reduceMul, Int.reduceToNat, Int.reducePow, Int.reduceDiv, Int.reduceMod, Nat.reduceSucc, hki, Try.ntmps14, Try.results14, FairS]))
      | fail)
    refine W_ret (endQ_ret (end_at [1] ?_))
    simp [go_sem, Try.results14, FairS]
    simpa [flatD, encDO] using hfl
end Go.Proofs.Ytpkiabhlmjnemaa
