/- The chapter's zone; the examples that every law about zones asks for; BuddyChanges; by the engine. -/
import Derived.Test.YtniiaaagammebaaBdAA
namespace Go.Proofs.Ytniiaaagammebaa
open Go.RowKit
set_option maxRecDepth 100000
set_option linter.unusedSimpArgs false
set_option linter.unusedVariables false

abbrev lv31BdAB : List (Nat × List Nat) := [(0, [0]), (1, [0, 2, 3]), (2, [0, 3, 4, 5, 6]), (3, [0, 3, 4, 5, 6, 7, 8, 9]), (4, [0, 3, 4, 5, 6, 7, 8, 9, 10, 11, 12]), (5, [0, 1])]
abbrev lv3BdAB : List (Nat × List Nat) := [(0, [1, 2, 3]), (1, [1, 2, 3, 17]), (2, [6]), (3, [1, 2, 3, 7]), (4, [1, 2, 3, 7, 8, 9, 10]), (5, [1, 2, 3, 7, 8, 9, 10, 11, 12, 13]), (6, [1, 2, 3, 7, 8, 11, 48]), (7, [6]), (8, [1, 2, 3, 7, 8, 10, 11]), (9, [1, 2, 3, 7, 8, 10, 11, 13]), (10, [1, 2, 3, 7, 8, 11, 71]), (11, [6]), (12, [1, 2, 3, 7, 8, 10, 11]), (13, [3, 7, 8, 10, 11, 13]), (14, [6])]
abbrev lv9BdAB : List (Nat × List Nat) := [(0, []), (1, [1, 2]), (2, [2, 3, 4]), (3, [2, 4, 5, 6]), (4, [0])]
def mD : List Bl := [(2, 1), (4, 2), (8, 1), (10, 0)]
def mE : List Bl := [(2, 1), (4, 2), (9, 0), (10, 0)]
theorem vE : Vz 11 mE := vz_chk (by decide +kernel)
theorem b_new : bld 11 (fun i => decide (i < 11)) = m0 := by decide +kernel
abbrev ze (m : List Bl) : AV := .agg [iv 11, dN m]
abbrev NewEFS : Spec := NewFS
theorem NewEF_ok : Ok Try.prog 18 NewEFS := NewF_ok
theorem NewEF_at : NewEFS.rel [iv 11] [] (.tup [ze m0, iv 0]) [] := by
  have : (frzS NewS).rel [iv ((11 : Nat) : Int)] [] (.tup [.agg [iv ((11 : Nat) : Int), dN (bld 11 (fun i => decide (i < 11)))], iv 0]) [] := ⟨rfl, rfl, _, _, .inr ⟨11, by decide, rfl, rfl, rfl, rfl⟩, frz_z 11 _ _ [.int .i64 0] rfl⟩
  rw [b_new] at this
  exact this
abbrev fm0S : Spec := freeLS
theorem fm0_ok : Ok Try.prog 32 fm0S := freeL_ok
theorem fm0_at : fm0S.rel [ze m0, .d (.sl [[.int .i64 0], [.int .i64 3], [.int .i64 8], [.int .i64 1], [.int .i64 10], [.int .i64 0]])] [] (bv true) [] := freeL_at 11 m0 (by decide)
abbrev fmAS : Spec := freeLS
theorem fmA_ok : Ok Try.prog 32 fmAS := freeL_ok
theorem fmA_at : fmAS.rel [ze mA, .d (.sl [[.int .i64 0], [.int .i64 3], [.int .i64 8], [.int .i64 1]])] [] (bv true) [] := freeL_at 11 mA (by decide)
abbrev fmBS : Spec := freeLS
theorem fmB_ok : Ok Try.prog 32 fmBS := freeL_ok
theorem fmB_at : fmBS.rel [ze mB, .d (.sl [[.int .i64 0], [.int .i64 3], [.int .i64 9], [.int .i64 0]])] [] (bv true) [] := freeL_at 11 mB (by decide)
abbrev fmCS : Spec := freeLS
theorem fmC_ok : Ok Try.prog 32 fmCS := freeL_ok
theorem fmC_at : fmCS.rel [ze mC, .d (.sl [[.int .i64 2], [.int .i64 1], [.int .i64 4], [.int .i64 2], [.int .i64 9], [.int .i64 0]])] [] (bv true) [] := freeL_at 11 mC (by decide)
abbrev fmDS : Spec := freeLS
theorem fmD_ok : Ok Try.prog 32 fmDS := freeL_ok
theorem fmD_at : fmDS.rel [ze mD, .d (.sl [[.int .i64 2], [.int .i64 1], [.int .i64 4], [.int .i64 2], [.int .i64 8], [.int .i64 1], [.int .i64 10], [.int .i64 0]])] [] (bv true) [] := freeL_at 11 mD (by decide)
abbrev al0S : Spec := AllocFS
theorem al0_ok : Ok Try.prog 11 al0S := AllocF_ok
theorem al0_at : al0S.rel [ze m0, iv 0] [] (.tup [ze mA, iv 10, iv 0]) [] := alloc_at' (N := 11) (k := 0) (b := (10, 0)) v0 (by decide) ⟨by decide, by decide, by decide, by decide⟩ (by decide +kernel)
abbrev al1S : Spec := AllocFS
theorem al1_ok : Ok Try.prog 11 al1S := AllocF_ok
theorem al1_at : al1S.rel [ze mA, iv 0] [] (.tup [ze mB, iv 8, iv 0]) [] := alloc_at' (N := 11) (k := 0) (b := (8, 1)) vA (by decide) ⟨by decide, by decide, by decide, by decide⟩ (by decide +kernel)
abbrev al2S : Spec := AllocFS
theorem al2_ok : Ok Try.prog 11 al2S := AllocF_ok
theorem al2_at : al2S.rel [ze mB, iv 1] [] (.tup [ze mC, iv 0, iv 0]) [] := alloc_at' (N := 11) (k := 1) (b := (0, 3)) vB (by decide) ⟨by decide, by decide, by decide, by decide⟩ (by decide +kernel)
abbrev fe1S : Spec := FreeFS
theorem fe1_ok : Ok Try.prog 14 fe1S := FreeF_ok
theorem fe1_at : fe1S.rel [ze mC, iv 10, iv 0] [] (.tup [ze mE, iv 0]) [] := by
  have hb : OkB 11 (10, 0) := by unfold OkB; decide
  exact free_at' (N := 11) (w := 10) (k := 0) vC hb ((nofr_iff ⟨vC, hb⟩).2 (by decide)) (by decide +kernel)
abbrev fe2S : Spec := FreeFS
theorem fe2_ok : Ok Try.prog 14 fe2S := FreeF_ok
theorem fe2_at : fe2S.rel [ze mE, iv 8, iv 0] [] (.tup [ze mD, iv 0]) [] := by
  have hb : OkB 11 (8, 0) := by unfold OkB; decide
  exact free_at' (N := 11) (w := 8) (k := 0) vE hb ((nofr_iff ⟨vE, hb⟩).2 (by decide)) (by decide +kernel)
def elevS : Spec := { al := true, rel := fun args ins res outs => args = [] ∧ ins = [] ∧ res = .tup [ze m0, bv true] ∧ outs = [] }
theorem elev_at : elevS.rel [] [] (.tup [ze m0, bv true]) [] := ⟨rfl, rfl, rfl, rfl⟩
theorem elev_ok : Ok Try.prog 33 elevS := by
  refine fn_ok elevS Try.func33 rfl rfl ?_
  rintro args ins res outs ⟨rfl, rfl, rfl, rfl⟩
  refine ⟨by simp [Try.ntmps33], fun w0 V Bo mu0 => ?_⟩
  repeat' (first
    | (with_reducible first | refine W_seq ?_ | refine W_condT rfl ?_ | refine W_condF rfl ?_ | refine W_tf rfl (fun h => ?_) (fun h => ?_) | refine W_block ?_ | refine W_scope ?_ | refine endQ_ret ?_ | refine endQ_normal ?_)
    | ((with_reducible first | refine hK _ ?_ | refine hK _ _ ?_); clear hK K)
    | ((first | (with_reducible first | refine ops_cons (fun K hK => ?_) | refine opsd_cons (fun K hK => ?_) | refine ops_nil ?_ | refine fit_i64 (by omega) ?_ | refine fit_u8 (by omega) ?_ | refine fit_u64 (by omega) ?_ | refine fit_u32 (by omega) ?_ | refine fit_any ?_ | refine quo_nn (by omega) ?_ | refine rem_nn (by omega) ?_ | refine quo_any ?_ | refine rem_any ?_ | refine sh_in (by simp only [IntKind.bits]; omega) ?_) | ((with_reducible refine opsd_nil ?_); refine And.intro (by kernel_rfl) ?_) | with_reducible refine callV_snap ?_ | ((with_reducible refine call_go NewEFS NewEF_ok ?_); refine ⟨(by first | exact alOk_nil _ | exact alOk_f rfl), _, _, NewEF_at , ?_⟩) | ((with_reducible refine call_go fm0S fm0_ok ?_); refine ⟨(by first | exact alOk_nil _ | exact alOk_f rfl), _, _, fm0_at , ?_⟩) | (with_reducible first | refine slice_old ?_ | refine app_grow ?_ | refine idx_map (by omega) ?_ | refine W_reg [(0, [0]), (1, [0, 2, 3]), (2, [0, 1])] ?_ | refine W_drw [(0, [0]), (1, [0, 2, 3]), (2, [0, 1])] (by kernel_rfl) ?_ | refine W_label ?_ | refine W_skip ?_ | refine W_exit ?_ | refine W_ret ?_ | refine end_at0 ?_) | (with_reducible refine And.intro (fun h => ?_) (fun h => ?_)) | (with_reducible refine And.intro (by omega) ?_)); (try simp only [go_sem, seval, reduceCtorEq, Try.ntmps33, Try.results33, elevS]))
    | fail)
def threeS : Spec := { al := true, rel := fun args ins res outs => args = [] ∧ ins = [] ∧ res = .tup [ze mC, bv true] ∧ outs = [] }
theorem three_at : threeS.rel [] [] (.tup [ze mC, bv true]) [] := ⟨rfl, rfl, rfl, rfl⟩
set_option maxHeartbeats 2000000 in
theorem three_ok : Ok Try.prog 31 threeS := by
  refine fn_ok threeS Try.func31 rfl rfl ?_
  rintro args ins res outs ⟨rfl, rfl, rfl, rfl⟩
  refine ⟨by simp [Try.ntmps31], fun w0 V Bo mu0 => ?_⟩
  repeat' (first
    | (with_reducible first | refine W_seq ?_ | refine W_condT rfl ?_ | refine W_condF rfl ?_ | refine W_tf rfl (fun h => ?_) (fun h => ?_) | refine W_block ?_ | refine W_scope ?_ | refine endQ_ret ?_ | refine endQ_normal ?_)
    | ((with_reducible first | refine hK _ ?_ | refine hK _ _ ?_); clear hK K)
    | ((first | (with_reducible first | refine ops_cons (fun K hK => ?_) | refine opsd_cons (fun K hK => ?_) | refine ops_nil ?_ | refine fit_i64 (by omega) ?_ | refine fit_u8 (by omega) ?_ | refine fit_u64 (by omega) ?_ | refine fit_u32 (by omega) ?_ | refine fit_any ?_ | refine quo_nn (by omega) ?_ | refine rem_nn (by omega) ?_ | refine quo_any ?_ | refine rem_any ?_ | refine sh_in (by simp only [IntKind.bits]; omega) ?_) | ((with_reducible refine opsd_nil ?_); refine And.intro (by kernel_rfl) ?_) | with_reducible refine callV_snap ?_ | ((with_reducible refine call_go elevS elev_ok ?_); refine ⟨(by first | exact alOk_nil _ | exact alOk_f rfl), _, _, elev_at , ?_⟩) | ((with_reducible refine call_go al0S al0_ok ?_); refine ⟨(by first | exact alOk_nil _ | exact alOk_f rfl), _, _, al0_at , ?_⟩) | ((with_reducible refine call_go al1S al1_ok ?_); refine ⟨(by first | exact alOk_nil _ | exact alOk_f rfl), _, _, al1_at , ?_⟩) | ((with_reducible refine call_go al2S al2_ok ?_); refine ⟨(by first | exact alOk_nil _ | exact alOk_f rfl), _, _, al2_at , ?_⟩) | ((with_reducible refine call_go fmAS fmA_ok ?_); refine ⟨(by first | exact alOk_nil _ | exact alOk_f rfl), _, _, fmA_at , ?_⟩) | ((with_reducible refine call_go fmBS fmB_ok ?_); refine ⟨(by first | exact alOk_nil _ | exact alOk_f rfl), _, _, fmB_at , ?_⟩) | ((with_reducible refine call_go fmCS fmC_ok ?_); refine ⟨(by first | exact alOk_nil _ | exact alOk_f rfl), _, _, fmC_at , ?_⟩) | (with_reducible first | refine slice_old ?_ | refine app_grow ?_ | refine idx_map (by omega) ?_ | refine W_reg lv31BdAB ?_ | refine W_drw lv31BdAB (by kernel_rfl) ?_ | refine W_label ?_ | refine W_skip ?_ | refine W_exit ?_ | refine W_ret ?_ | refine end_at0 ?_) | (with_reducible refine And.intro (fun h => ?_) (fun h => ?_)) | (with_reducible refine And.intro (by omega) ?_)); (try simp only [go_sem, seval, reduceCtorEq, lv31BdAB, Try.ntmps31, Try.results31, threeS]))
    | fail)
def awakeS : Spec := { rel := fun args ins res outs => args = [] ∧ ins = [] ∧ res = bv true ∧ outs = [] }
theorem awake_at : awakeS.rel [] [] (bv true) [] := ⟨rfl, rfl, rfl, rfl⟩
set_option maxHeartbeats 2000000 in
theorem awake_ok : Ok Try.prog 9 awakeS := by
  refine fn_ok awakeS Try.func9 rfl rfl ?_
  rintro args ins res outs ⟨rfl, rfl, rfl, rfl⟩
  refine ⟨by simp [Try.ntmps9], fun w0 V Bo mu0 => ?_⟩
  repeat' (first
    | (with_reducible first | refine W_seq ?_ | refine W_condT rfl ?_ | refine W_condF rfl ?_ | refine W_tf rfl (fun h => ?_) (fun h => ?_) | refine W_block ?_ | refine W_scope ?_ | refine endQ_ret ?_ | refine endQ_normal ?_)
    | ((with_reducible first | refine hK _ ?_ | refine hK _ _ ?_); clear hK K)
    | ((first | (with_reducible first | refine ops_cons (fun K hK => ?_) | refine opsd_cons (fun K hK => ?_) | refine ops_nil ?_ | refine fit_i64 (by omega) ?_ | refine fit_u8 (by omega) ?_ | refine fit_u64 (by omega) ?_ | refine fit_u32 (by omega) ?_ | refine fit_any ?_ | refine quo_nn (by omega) ?_ | refine rem_nn (by omega) ?_ | refine quo_any ?_ | refine rem_any ?_ | refine sh_in (by simp only [IntKind.bits]; omega) ?_) | ((with_reducible refine opsd_nil ?_); refine And.intro (by kernel_rfl) ?_) | with_reducible refine callV_snap ?_ | ((with_reducible refine call_go threeS three_ok ?_); refine ⟨(by first | exact alOk_nil _ | exact alOk_f rfl), _, _, three_at , ?_⟩) | ((with_reducible refine call_go fe1S fe1_ok ?_); refine ⟨(by first | exact alOk_nil _ | exact alOk_f rfl), _, _, fe1_at , ?_⟩) | ((with_reducible refine call_go fe2S fe2_ok ?_); refine ⟨(by first | exact alOk_nil _ | exact alOk_f rfl), _, _, fe2_at , ?_⟩) | ((with_reducible refine call_go fmDS fmD_ok ?_); refine ⟨(by first | exact alOk_nil _ | exact alOk_f rfl), _, _, fmD_at , ?_⟩) | (with_reducible first | refine slice_old ?_ | refine app_grow ?_ | refine idx_map (by omega) ?_ | refine W_reg lv9BdAB ?_ | refine W_drw lv9BdAB (by kernel_rfl) ?_ | refine W_label ?_ | refine W_skip ?_ | refine W_exit ?_ | refine W_ret ?_ | refine end_at0 ?_) | (with_reducible refine And.intro (fun h => ?_) (fun h => ?_)) | (with_reducible refine And.intro (by omega) ?_)); (try simp only [go_sem, seval, reduceCtorEq, lv9BdAB, Try.ntmps9, Try.results9, awakeS]))
    | fail)

def chgS : Spec := { rel := fun args ins res outs => ∃ (n : Int) (l : List Bi) (k a : Int), l.length ≤ 9223372036854775807 ∧ args = [zv n l, iv k, iv a] ∧ ins = [] ∧ res = bv true ∧ outs = [] }
set_option maxHeartbeats 8000000 in
theorem chg_ok : Ok Try.prog 3 chgS := by
  refine fn_ok chgS Try.func3 rfl rfl ?_
  rintro args ins res outs ⟨n, l, k, a, hl, rfl, rfl, rfl, rfl⟩
  refine ⟨by simp [Try.ntmps3], fun w0 V Bo mu0 => ?_⟩
  by_cases h1 : (300 : Int) < l.length
  · skip
    repeat' (first
      | (with_reducible first | refine W_seq ?_ | refine W_condT rfl ?_ | refine W_condF rfl ?_ | refine W_tf rfl (fun h => ?_) (fun h => ?_) | refine W_block ?_ | refine W_scope ?_ | refine endQ_ret ?_ | refine endQ_normal ?_)
      | ((with_reducible first | refine hK _ ?_ | refine hK _ _ ?_); clear hK K)
      | ((first | (with_reducible first | refine ops_cons (fun K hK => ?_) | refine opsd_cons (fun K hK => ?_) | refine ops_nil ?_ | refine fit_i64 (by omega) ?_ | refine fit_u8 (by omega) ?_ | refine fit_u64 (by omega) ?_ | refine fit_u32 (by omega) ?_ | refine fit_any ?_ | refine quo_nn (by omega) ?_ | refine rem_nn (by omega) ?_ | refine quo_any ?_ | refine rem_any ?_ | refine sh_in (by simp only [IntKind.bits]; omega) ?_) | ((with_reducible refine opsd_nil ?_); refine And.intro (by kernel_rfl) ?_) | with_reducible refine callV_snap ?_ | ((with_reducible refine call_go awakeS awake_ok ?_); refine ⟨(by first | exact alOk_nil _ | exact alOk_f rfl), _, _, awake_at , ?_⟩) | (with_reducible first | refine slice_old ?_ | refine app_grow ?_ | refine idx_map (by omega) ?_ | refine W_reg lv3BdAB ?_ | refine W_drw lv3BdAB (by kernel_rfl) ?_ | refine W_label ?_ | refine W_skip ?_ | refine W_exit ?_ | refine W_ret ?_ | refine end_at0 ?_) | (with_reducible refine And.intro (fun h => ?_) (fun h => ?_)) | (with_reducible refine And.intro (by omega) ?_)); (try simp only [go_sem, seval, reduceCtorEq, h1, lv3BdAB, Try.ntmps3, Try.results3, chgS]))
      | fail)
  · have hl6 : l.length ≤ 1000000 := by omega
    obtain ⟨z1, Z1, w1, e1, L1, hA⟩ := alloc_ex n l k hl6
    obtain ⟨z2, Z2, e2, L2, hF⟩ := free_ex n l a k hl6
    obtain ⟨z3, Z3, e3, L3, hT⟩ := take_ex n l a k hl6
    have AllocF_at : AllocFS.rel [zv n l, iv k] [] (.tup [.agg [iv z1, dN Z1], iv w1, iv e1]) [] := hA
    have rAllocF_at : rAllocFS.rel [zv n l, iv k] [] (.tup [.agg [iv z1, dN Z1], iv w1, iv e1]) [] := hA
    have FreeF_at : FreeFS.rel [zv n l, iv a, iv k] [] (.tup [.agg [iv z2, dN Z2], iv e2]) [] := hF
    have rFreeF_at : rFreeFS.rel [zv n l, iv a, iv k] [] (.tup [.agg [iv z2, dN Z2], iv e2]) [] := hF
    have TakeF_at : TakeFS.rel [zv n l, iv a, iv k] [] (.tup [.agg [iv z3, dN Z3], iv e3]) [] := hT
    have rTakeF_at : rTakeFS.rel [zv n l, iv a, iv k] [] (.tup [.agg [iv z3, dN Z3], iv e3]) [] := hT
    repeat' (first
      | (with_reducible first | refine W_seq ?_ | refine W_condT rfl ?_ | refine W_condF rfl ?_ | refine W_tf rfl (fun h => ?_) (fun h => ?_) | refine W_block ?_ | refine W_scope ?_ | refine endQ_ret ?_ | refine endQ_normal ?_)
      | ((with_reducible first | refine hK _ ?_ | refine hK _ _ ?_); clear hK K)
      | ((first | (with_reducible first | refine ops_cons (fun K hK => ?_) | refine opsd_cons (fun K hK => ?_) | refine ops_nil ?_ | refine fit_i64 (by omega) ?_ | refine fit_u8 (by omega) ?_ | refine fit_u64 (by omega) ?_ | refine fit_u32 (by omega) ?_ | refine fit_any ?_ | refine quo_nn (by omega) ?_ | refine rem_nn (by omega) ?_ | refine quo_any ?_ | refine rem_any ?_ | refine sh_in (by simp only [IntKind.bits]; omega) ?_) | ((with_reducible refine opsd_nil ?_); refine And.intro (by kernel_rfl) ?_) | with_reducible refine callV_snap ?_ | ((with_reducible refine call_go OwnBFS OwnBF_ok ?_); refine ⟨(by first | exact alOk_nil _ | exact alOk_f rfl), _, _, OwnBF_at n l hl6, ?_⟩) | ((with_reducible refine call_go AllocFS AllocF_ok ?_); refine ⟨(by first | exact alOk_nil _ | exact alOk_f rfl), _, _, AllocF_at , ?_⟩) | ((with_reducible refine call_go rAllocFS rAllocF_ok ?_); refine ⟨(by first | exact alOk_nil _ | exact alOk_f rfl), _, _, rAllocF_at , ?_⟩) | ((with_reducible refine call_go FreeFS FreeF_ok ?_); refine ⟨(by first | exact alOk_nil _ | exact alOk_f rfl), _, _, FreeF_at , ?_⟩) | ((with_reducible refine call_go rFreeFS rFreeF_ok ?_); refine ⟨(by first | exact alOk_nil _ | exact alOk_f rfl), _, _, rFreeF_at , ?_⟩) | ((with_reducible refine call_go TakeFS TakeF_ok ?_); refine ⟨(by first | exact alOk_nil _ | exact alOk_f rfl), _, _, TakeF_at , ?_⟩) | ((with_reducible refine call_go rTakeFS rTakeF_ok ?_); refine ⟨(by first | exact alOk_nil _ | exact alOk_f rfl), _, _, rTakeF_at , ?_⟩) | ((with_reducible refine call_go SameBS SameB_ok ?_); refine ⟨(by first | exact alOk_nil _ | exact alOk_f rfl), _, _, SameB_at z1 Z1 L1, ?_⟩) | ((with_reducible refine call_go SameBS SameB_ok ?_); refine ⟨(by first | exact alOk_nil _ | exact alOk_f rfl), _, _, SameB_at z2 Z2 L2, ?_⟩) | ((with_reducible refine call_go SameBS SameB_ok ?_); refine ⟨(by first | exact alOk_nil _ | exact alOk_f rfl), _, _, SameB_at z3 Z3 L3, ?_⟩) | ((with_reducible refine call_go SameZS SameZ_ok ?_); refine ⟨(by first | exact alOk_nil _ | exact alOk_f rfl), _, _, SameZ_at n l hl6, ?_⟩) | ((with_reducible refine call_go awakeS awake_ok ?_); refine ⟨(by first | exact alOk_nil _ | exact alOk_f rfl), _, _, awake_at , ?_⟩) | (with_reducible first | refine slice_old ?_ | refine app_grow ?_ | refine idx_map (by omega) ?_ | refine W_reg lv3BdAB ?_ | refine W_drw lv3BdAB (by kernel_rfl) ?_ | refine W_label ?_ | refine W_skip ?_ | refine W_exit ?_ | refine W_ret ?_ | refine end_at0 ?_) | (with_reducible refine And.intro (fun h => ?_) (fun h => ?_)) | (with_reducible refine And.intro (by omega) ?_)); (try simp only [go_sem, seval, reduceCtorEq, h1, lv3BdAB, Try.ntmps3, Try.results3, chgS]))
      | fail)
end Go.Proofs.Ytniiaaagammebaa
