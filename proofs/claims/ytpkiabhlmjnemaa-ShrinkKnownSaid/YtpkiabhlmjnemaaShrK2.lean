/- ShrinkKnown, by the engine. -/
import Derived.Test.YtpkiabhlmjnemaaShrZ
import Derived.Test.YtpkiabhlmjnemaaShrS
namespace Go.Proofs.Ytpkiabhlmjnemaa
open Go.RowKit
set_option maxRecDepth 100000
set_option linter.unusedSimpArgs false
set_option linter.unusedVariables false

theorem ex_s0 : shrs ex5 0 = [0, 0, 0] := by decide +kernel
theorem ex_s1 : shrs ex5 1 = [1, 0, 0] := by decide +kernel
theorem ex_s2 : shrs ex5 2 = [1, 1, 0] := by decide +kernel
theorem ex_s5 : shrs ex5 5 = [3, 1, 1] := by decide +kernel
theorem ex_s9 : shrs ex5 9 = [3, 1, 1] := by decide +kernel
def kA : List O := [(1, 1, 1), (2, 2, 2)]
def kB : List O := [(1, 1, 1), (2, 2, 2), (1, 3, 3)]
def kC : List O := [(1, 1, 1), (2, 2, 2), (1, 3, 3), (3, 4, 4)]
def kD : List O := [(1, 1, 1), (2, 2, 2), (3, 4, 4), (1, 5, 5)]
theorem k_old : ex5.take (2 : Int).toNat = kA := by decide +kernel
theorem k_fair3 : fairL ex5 3 = kB := by decide +kernel
theorem k_fair4 : fairL ex5 4 = kC := by decide +kernel
theorem k_dropI : ageI ex5 3 = some 2 := by decide +kernel
theorem k_drop : ex5.eraseIdx 2 = kD := by decide +kernel
theorem k_dropN : ageI ex5 6 = none := by decide +kernel
theorem k_add1 : addE ex5 (2, 5, 9) = 8 := by decide +kernel
theorem k_add2 : addE ex5 (4, 6, 9) = 16 := by decide +kernel
theorem k_oldn : oldE ex5 (-1) = 2 := by decide +kernel
theorem k_nil : oldE [] 4 = 0 := by decide +kernel
abbrev DropOkS : Spec := DropS
theorem DropOk_ok : Ok Try.prog 28 DropOkS := Drop_ok
theorem DropOk_at : DropOkS.rel [dO ex5, wv 3] [] (.tup [.row 0 3 0 4, ov (1, 3, 3), iv 0]) [.rows 34 3 (kD.map encDO)] :=
  ⟨ex5, 3, ex5_len, rfl, rfl, .inr ⟨2, by decide, by rw [ex5_chk], k_dropI, rfl, by rw [k_drop]⟩⟩
abbrev DropNoS : Spec := DropS
theorem DropNo_ok : Ok Try.prog 28 DropNoS := Drop_ok
theorem DropNo_at : DropNoS.rel [dO ex5, wv 6] [] (.tup [.nil, ov (0, 0, 0), iv 6]) [] := by
  have e : drpE ex5 6 = 6 := by unfold drpE; rw [ex5_chk, k_dropN]; rfl
  refine ⟨ex5, 6, ex5_len, rfl, rfl, .inl ⟨by rw [e]; decide, by rw [e], rfl⟩⟩
abbrev AddNoS : Spec := AddS
theorem AddNo_ok : Ok Try.prog 26 AddNoS := Add_ok
theorem AddNo_at (o : O) (e : Int) (h : addE ex5 o = e) (h0 : e ≠ 0) : AddNoS.rel [dO ex5, ov o] [] (.tup [.nil, iv e]) [] := ⟨ex5, o, ex5_len, rfl, rfl, by rw [h, rsl_bad h0], by rw [h, osl_bad h0]⟩
abbrev OldNoS : Spec := OldestS
theorem OldNo_ok : Ok Try.prog 16 OldNoS := Oldest_ok
theorem OldNo_at : OldNoS.rel [dO ex5, iv (-1)] [] (.tup [.nil, iv 2]) [] := ⟨ex5, -1, ex5_len, rfl, rfl, by rw [k_oldn, rsl_bad (by decide)], by rw [k_oldn, osl_bad (by decide)]⟩
abbrev OldNilS : Spec := OldestS
theorem OldNil_ok : Ok Try.prog 16 OldNilS := Oldest_ok
theorem OldNil_at : OldNilS.rel [.d (.sl []), iv 4] [] (.tup [.row 0 3 0 0, iv 0]) [.rows 34 3 []] := ⟨[], 4, by simp, rfl, rfl, by rw [k_nil]; rfl, by rw [k_nil]; rfl⟩
abbrev agAS : Spec := agesS
abbrev agBS : Spec := agesS
abbrev agCS : Spec := agesS
abbrev agDS : Spec := agesS
abbrev agNS : Spec := agesS
theorem agA_ok : Ok Try.prog 32 agAS := ages_ok
theorem agB_ok : Ok Try.prog 32 agBS := ages_ok
theorem agC_ok : Ok Try.prog 32 agCS := ages_ok
theorem agD_ok : Ok Try.prog 32 agDS := ages_ok
theorem agN_ok : Ok Try.prog 32 agNS := ages_ok
theorem agA_at : agAS.rel [dO kA, iv 0, .d (.sl [[.int .u64 1], [.int .u64 2]])] [] (bv true) [] := ages_at kA (by decide)
theorem agB_at : agBS.rel [dO kB, iv 0, .d (.sl [[.int .u64 1], [.int .u64 2], [.int .u64 3]])] [] (bv true) [] := ages_at kB (by decide)
theorem agC_at : agCS.rel [dO kC, iv 0, .d (.sl [[.int .u64 1], [.int .u64 2], [.int .u64 3], [.int .u64 4]])] [] (bv true) [] := ages_at kC (by decide)
theorem agD_at : agDS.rel [dO kD, iv 0, .d (.sl [[.int .u64 1], [.int .u64 2], [.int .u64 4], [.int .u64 5]])] [] (bv true) [] := ages_at kD (by decide)
theorem agN_at : agNS.rel [.d (.sl []), iv 0, .d (.sl [])] [] (bv true) [] := ages_at [] (by simp)
theorem kA_t : List.take 2 (List.map encDO kA) = List.map encDO kA := rfl
theorem kB_t : List.take 3 (List.map encDO kB) = List.map encDO kB := rfl
theorem kC_t : List.take 4 (List.map encDO kC) = List.map encDO kC := rfl
theorem kD_t : List.take 4 (List.map encDO kD) = List.map encDO kD := rfl
theorem kA_l : kA.length = 2 := rfl
theorem kB_l : kB.length = 3 := rfl
theorem kC_l : kC.length = 4 := rfl
theorem kD_l : kD.length = 4 := rfl
def knwS : Spec := { rel := fun args ins res outs => args = [] ∧ ins = [] ∧ res = bv true ∧ outs = [] }
set_option maxHeartbeats 4000000 in
theorem knw_ok : Ok Try.prog 9 knwS := by
  refine fn_ok knwS Try.func9 rfl rfl ?_
  rintro args ins res outs ⟨rfl, rfl, rfl, rfl⟩
  refine ⟨by simp [Try.ntmps9], fun w0 V Bo mu0 => ?_⟩
  repeat' (first
    | (with_reducible first | refine W_seq ?_ | refine W_condT rfl ?_ | refine W_condF rfl ?_ | refine W_tf rfl (fun h => ?_) (fun h => ?_) | refine W_block ?_ | refine W_scope ?_ | refine endQ_ret ?_ | refine endQ_normal ?_)
    | ((with_reducible first | refine hK _ ?_ | refine hK _ _ ?_); clear hK K)
    | ((with_reducible refine And.intro eqt_obj ?_); (try simp only [go_sem, Nat.reduceAdd, Nat.reduceSub, Nat.reduceMul, Nat.reduceDiv, Nat.reduceMod, Nat.reducePow, Nat.reduceLT, Nat.reduceEqDiff, Nat.reduceBEq, Nat.reduceLeDiff, reduceIte, reduceCtorEq, Int.reduceLT, Int.reduceLE, Int.reduceEq, Int.reduceNe, Int.reduceNeg, Int.reduceAdd, Int.reduceSub, Int.reduceMul, Int.reduceToNat, Int.reducePow, Int.reduceDiv, Int.reduceMod, Nat.reduceSucc]))
    | ((first | (with_reducible first | refine ops_cons (fun K hK => ?_) | refine opsd_cons (fun K hK => ?_) | refine ops_nil ?_ | refine fit_i64 (by omega) ?_ | refine fit_u8 (by omega) ?_ | refine fit_u64 (by omega) ?_ | refine fit_u32 (by omega) ?_ | refine fit_any ?_ | refine quo_nn (by omega) ?_ | refine rem_nn (by omega) ?_ | refine quo_any ?_ | refine rem_any ?_ | refine sh_in (by simp only [IntKind.bits]; omega) ?_) | ((with_reducible refine opsd_nil ?_); refine And.intro (by kernel_rfl) ?_) | with_reducible refine callV_snap ?_ | ((with_reducible refine call_go obj5S obj5_ok ?_); refine ⟨(by first | exact alOk_nil _ | exact alOk_f rfl), _, _, obj5_at , ?_⟩) | ((with_reducible refine call_go lshS lsh_ok ?_); refine ⟨(by first | exact alOk_nil _ | exact alOk_f rfl), _, _, lsh_at 0 0 0 0 (by decide) ex_s0, ?_⟩) | ((with_reducible refine call_go lshS lsh_ok ?_); refine ⟨(by first | exact alOk_nil _ | exact alOk_f rfl), _, _, lsh_at 1 1 0 0 (by decide) ex_s1, ?_⟩) | ((with_reducible refine call_go lshS lsh_ok ?_); refine ⟨(by first | exact alOk_nil _ | exact alOk_f rfl), _, _, lsh_at 2 1 1 0 (by decide) ex_s2, ?_⟩) | ((with_reducible refine call_go lshS lsh_ok ?_); refine ⟨(by first | exact alOk_nil _ | exact alOk_f rfl), _, _, lsh_at 5 3 1 1 (by decide) ex_s5, ?_⟩) | ((with_reducible refine call_go lshS lsh_ok ?_); refine ⟨(by first | exact alOk_nil _ | exact alOk_f rfl), _, _, lsh_at 9 3 1 1 (by decide) ex_s9, ?_⟩) | ((with_reducible refine call_go OldOkS OldOk_ok ?_); refine ⟨(by first | exact alOk_nil _ | exact alOk_f rfl), _, _, OldOk_at ex5 kA 2 ex5_len (ex5_old 2 (by decide)) k_old, ?_⟩) | ((with_reducible refine call_go FairOkS FairOk_ok ?_); refine ⟨(by first | exact alOk_nil _ | exact alOk_f rfl), _, _, FairOk_at ex5 kB 3 ex5_len (ex5_old 3 (by decide)) k_fair3, ?_⟩) | ((with_reducible refine call_go FairOkS FairOk_ok ?_); refine ⟨(by first | exact alOk_nil _ | exact alOk_f rfl), _, _, FairOk_at ex5 kC 4 ex5_len (ex5_old 4 (by decide)) k_fair4, ?_⟩) | ((with_reducible refine call_go DropOkS DropOk_ok ?_); refine ⟨(by first | exact alOk_nil _ | exact alOk_f rfl), _, _, DropOk_at , ?_⟩) | ((with_reducible refine call_go DropNoS DropNo_ok ?_); refine ⟨(by first | exact alOk_nil _ | exact alOk_f rfl), _, _, DropNo_at , ?_⟩) | ((with_reducible refine call_go AddNoS AddNo_ok ?_); refine ⟨(by first | exact alOk_nil _ | exact alOk_f rfl), _, _, AddNo_at (2, 5, 9) 8 k_add1 (by decide), ?_⟩) | ((with_reducible refine call_go AddNoS AddNo_ok ?_); refine ⟨(by first | exact alOk_nil _ | exact alOk_f rfl), _, _, AddNo_at (4, 6, 9) 16 k_add2 (by decide), ?_⟩) | ((with_reducible refine call_go OldNoS OldNo_ok ?_); refine ⟨(by first | exact alOk_nil _ | exact alOk_f rfl), _, _, OldNo_at , ?_⟩) | ((with_reducible refine call_go OldNilS OldNil_ok ?_); refine ⟨(by first | exact alOk_nil _ | exact alOk_f rfl), _, _, OldNil_at , ?_⟩) | ((with_reducible refine call_go agAS agA_ok ?_); refine ⟨(by first | exact alOk_nil _ | exact alOk_f rfl), _, _, agA_at , ?_⟩) | ((with_reducible refine call_go agBS agB_ok ?_); refine ⟨(by first | exact alOk_nil _ | exact alOk_f rfl), _, _, agB_at , ?_⟩) | ((with_reducible refine call_go agCS agC_ok ?_); refine ⟨(by first | exact alOk_nil _ | exact alOk_f rfl), _, _, agC_at , ?_⟩) | ((with_reducible refine call_go agDS agD_ok ?_); refine ⟨(by first | exact alOk_nil _ | exact alOk_f rfl), _, _, agD_at , ?_⟩) | ((with_reducible refine call_go agNS agN_ok ?_); refine ⟨(by first | exact alOk_nil _ | exact alOk_f rfl), _, _, agN_at , ?_⟩) | ((with_reducible refine call_go awakeS awake_ok ?_); refine ⟨(by first | exact alOk_nil _ | exact alOk_f rfl), _, _, awake_at , ?_⟩) | (with_reducible first | refine slice_old ?_ | refine app_grow ?_ | refine idx_map (by omega) ?_ | refine W_reg [(0, []), (1, [1]), (2, [1, 35]), (3, [0]), (4, [1, 2, 3]), (5, [1, 2, 3, 4, 5]), (6, [1, 2, 3, 4, 5, 6, 7]), (7, [1, 69]), (8, [0]), (9, [1, 2, 3, 8]), (10, [1, 2, 3, 5, 8]), (11, [1, 2, 3, 5, 7, 8]), (12, [1, 2, 3, 5, 7, 8, 10]), (13, [1, 115]), (14, [0]), (15, [3]), (16, [3, 4, 5]), (17, [0])] ?_ | refine W_drw [(0, []), (1, [1]), (2, [1, 35]), (3, [0]), (4, [1, 2, 3]), (5, [1, 2, 3, 4, 5]), (6, [1, 2, 3, 4, 5, 6, 7]), (7, [1, 69]), (8, [0]), (9, [1, 2, 3, 8]), (10, [1, 2, 3, 5, 8]), (11, [1, 2, 3, 5, 7, 8]), (12, [1, 2, 3, 5, 7, 8, 10]), (13, [1, 115]), (14, [0]), (15, [3]), (16, [3, 4, 5]), (17, [0])] (by kernel_rfl) ?_ | refine W_label ?_ | refine W_skip ?_ | refine W_exit ?_ | refine W_ret ?_ | refine end_at0 ?_) | (with_reducible refine And.intro (fun h => ?_) (fun h => ?_)) | (with_reducible refine And.intro (by omega) ?_)); (try simp only [go_sem, Nat.reduceAdd, Nat.reduceSub, Nat.reduceMul, Nat.reduceDiv, Nat.reduceMod, Nat.reducePow, Nat.reduceLT, Nat.reduceEqDiff, Nat.reduceBEq, Nat.reduceLeDiff, reduceIte, reduceCtorEq, Int.reduceLT, Int.reduceLE, Int.reduceEq, Int.reduceNe, Int.reduceNeg, Int.reduceAdd, Int.reduceSub, Int.reduceMul, Int.reduceToNat, Int.reducePow, Int.reduceDiv, Int.reduceMod, Nat.reduceSucc, ex5_take, ex5_l5, kA_t, kB_t, kC_t, kD_t, kA_l, kB_l, kC_l, kD_l, Try.ntmps9, Try.results9, knwS]))
    | fail)
end Go.Proofs.Ytpkiabhlmjnemaa
