/- BuddyChecks, by the engine. -/
import Derived.Test.YtniiaaagammebaaBdAB
namespace Go.Proofs.Ytniiaaagammebaa
open Go.RowKit
set_option maxRecDepth 100000
set_option linter.unusedSimpArgs false
set_option linter.unusedVariables false

abbrev lv26BdAC : List (Nat × List Nat) := [(0, [0, 1]), (1, [0, 1, 10]), (2, [4]), (3, [0, 1, 5]), (4, [0, 1, 5, 14]), (5, [0, 1, 5]), (6, [0, 1, 5, 25]), (7, [4]), (8, [4])]
abbrev lv4BdAC : List (Nat × List Nat) := [(0, [1, 2, 3]), (1, [1, 2, 3, 25]), (2, [6]), (3, [1, 2, 3, 7]), (4, [1, 2, 3, 7, 8, 9]), (5, [1, 2, 3, 7, 8, 9, 10, 11]), (6, [1, 2, 3, 7, 47]), (7, [6]), (8, [1, 2, 3, 7, 9, 12]), (9, [1, 2, 3, 7, 9, 11, 12, 13]), (10, [1, 2, 3, 7, 65]), (11, [6]), (12, [1, 2, 3, 7, 9, 14]), (13, [1, 2, 3, 7, 9, 11, 14, 15]), (14, [1, 2, 3, 7, 83]), (15, [6]), (16, [1, 2, 3, 7, 9, 16]), (17, [1, 2, 3, 7, 9, 11, 16, 17]), (18, [1, 2, 3, 7, 102]), (19, [6]), (20, [1, 2, 3, 7, 9, 14]), (21, [2, 3, 7, 9, 11, 14, 15]), (22, [2, 3, 7, 9, 11, 14, 15, 18, 19]), (23, [3, 7, 9, 11, 14, 15, 18, 19, 20, 21]), (24, [6])]
def SameIS : Spec := { rel := fun args ins res outs => ∃ c : List Int, c.length ≤ 1000000 ∧ args = [dI c, dI c] ∧ ins = [] ∧ res = bv true ∧ outs = [] }
theorem SameI_at (c : List Int) (h : c.length ≤ 1000000) : SameIS.rel [dI c, dI c] [] (bv true) [] := ⟨c, h, rfl, rfl, rfl, rfl⟩
set_option maxHeartbeats 1000000 in
theorem SameI_ok : Ok Try.prog 26 SameIS := by
  refine fn_ok SameIS Try.func26 rfl rfl ?_
  rintro args ins res outs ⟨l, hl, rfl, rfl, rfl, rfl⟩
  refine ⟨by simp [Try.ntmps26], fun w0 V Bo mu0 => ?_⟩
  repeat' (first
    | (with_reducible first | refine W_seq ?_ | refine W_condT rfl ?_ | refine W_condF rfl ?_ | refine W_tf rfl (fun h => ?_) (fun h => ?_) | refine W_block ?_ | refine W_scope ?_ | refine endQ_ret ?_ | refine endQ_normal ?_)
    | ((with_reducible first | refine hK _ ?_ | refine hK _ _ ?_); clear hK K)
    | ((first | (with_reducible first | refine ops_cons (fun K hK => ?_) | refine opsd_cons (fun K hK => ?_) | refine ops_nil ?_ | refine fit_i64 (by omega) ?_ | refine fit_u8 (by omega) ?_ | refine fit_u64 (by omega) ?_ | refine fit_u32 (by omega) ?_ | refine fit_any ?_ | refine quo_nn (by omega) ?_ | refine rem_nn (by omega) ?_ | refine quo_any ?_ | refine rem_any ?_ | refine sh_in (by simp only [IntKind.bits]; omega) ?_) | ((with_reducible refine opsd_nil ?_); refine And.intro (by kernel_rfl) ?_) | with_reducible refine callV_snap ?_ | (with_reducible first | refine slice_old ?_ | refine app_grow ?_ | refine idx_map (by omega) ?_ | refine W_reg lv26BdAC ?_ | refine W_drw lv26BdAC (by kernel_rfl) ?_ | refine W_label ?_ | refine W_skip ?_ | refine W_exit ?_ | refine W_ret ?_ | refine end_at0 ?_) | (with_reducible refine And.intro (fun h => ?_) (fun h => ?_)) | (with_reducible refine And.intro (by omega) ?_)); (try simp only [go_sem, seval, reduceCtorEq, lv26BdAC, Try.ntmps26, Try.results26, SameIS]))
    | fail)
  refine W_loop (fun k : Nat => ⟨[(0, dI l), (1, dI l), (5, iv k)], []⟩) (fun k => k ≤ l.length) (fun k => l.length - k) 0 (Nat.zero_le _) [] ?_ ?_
  · simp [go_sem]
  intro k hk
  by_cases hlt : k < l.length
  · have hki : (k : Int) < l.length := by omega
    repeat' (first
      | (with_reducible first | refine W_seq ?_ | refine W_condT rfl ?_ | refine W_condF rfl ?_ | refine W_tf rfl (fun h => ?_) (fun h => ?_) | refine W_block ?_ | refine W_scope ?_ | refine endQ_ret ?_ | refine endQ_normal ?_)
      | ((with_reducible first | refine hK _ ?_ | refine hK _ _ ?_); clear hK K)
      | ((first | (with_reducible first | refine ops_cons (fun K hK => ?_) | refine opsd_cons (fun K hK => ?_) | refine ops_nil ?_ | refine fit_i64 (by omega) ?_ | refine fit_u8 (by omega) ?_ | refine fit_u64 (by omega) ?_ | refine fit_u32 (by omega) ?_ | refine fit_any ?_ | refine quo_nn (by omega) ?_ | refine rem_nn (by omega) ?_ | refine quo_any ?_ | refine rem_any ?_ | refine sh_in (by simp only [IntKind.bits]; omega) ?_) | ((with_reducible refine opsd_nil ?_); refine And.intro (by kernel_rfl) ?_) | with_reducible refine callV_snap ?_ | (with_reducible first | refine slice_old ?_ | refine app_grow ?_ | refine idx_map (by omega) ?_ | refine W_reg lv26BdAC ?_ | refine W_drw lv26BdAC (by kernel_rfl) ?_ | refine W_label ?_ | refine W_skip ?_ | refine W_exit ?_ | refine W_ret ?_ | refine end_at0 ?_) | (with_reducible refine And.intro (fun h => ?_) (fun h => ?_)) | (with_reducible refine And.intro (by omega) ?_)); (try simp only [go_sem, seval, reduceCtorEq, encDI, hki, lv26BdAC, Try.ntmps26, Try.results26, SameIS]))
      | fail)
    refine ⟨k + 1, [], by omega, by omega, ?_⟩
    simp [go_sem]
  · have hki : ¬ (k : Int) < l.length := by omega
    repeat' (first
      | (with_reducible first | refine W_seq ?_ | refine W_condT rfl ?_ | refine W_condF rfl ?_ | refine W_tf rfl (fun h => ?_) (fun h => ?_) | refine W_block ?_ | refine W_scope ?_ | refine endQ_ret ?_ | refine endQ_normal ?_)
      | ((with_reducible first | refine hK _ ?_ | refine hK _ _ ?_); clear hK K)
      | ((first | (with_reducible first | refine ops_cons (fun K hK => ?_) | refine opsd_cons (fun K hK => ?_) | refine ops_nil ?_ | refine fit_i64 (by omega) ?_ | refine fit_u8 (by omega) ?_ | refine fit_u64 (by omega) ?_ | refine fit_u32 (by omega) ?_ | refine fit_any ?_ | refine quo_nn (by omega) ?_ | refine rem_nn (by omega) ?_ | refine quo_any ?_ | refine rem_any ?_ | refine sh_in (by simp only [IntKind.bits]; omega) ?_) | ((with_reducible refine opsd_nil ?_); refine And.intro (by kernel_rfl) ?_) | with_reducible refine callV_snap ?_ | (with_reducible first | refine slice_old ?_ | refine app_grow ?_ | refine idx_map (by omega) ?_ | refine W_reg lv26BdAC ?_ | refine W_drw lv26BdAC (by kernel_rfl) ?_ | refine W_label ?_ | refine W_skip ?_ | refine W_exit ?_ | refine W_ret ?_ | refine end_at0 ?_) | (with_reducible refine And.intro (fun h => ?_) (fun h => ?_)) | (with_reducible refine And.intro (by omega) ?_)); (try simp only [go_sem, seval, reduceCtorEq, hki, lv26BdAC, Try.ntmps26, Try.results26, SameIS]))
      | fail)

theorem tot_ex (n : Int) (l : List Bi) (hl : l.length ≤ 1000000) : ∃ a e : Int, TotS.rel [zv n l] [] (.tup [iv a, iv e]) [] := by
  by_cases h : (zchk n l).1 = 0
  · obtain ⟨N, m, rfl, rfl, hv⟩ := vz_of h
    rw [zv_toI]
    exact ⟨_, _, Tot_at N m hv⟩
  · exact ⟨_, _, TotN_at n l hl h⟩
theorem most_ex (n : Int) (l : List Bi) (k : Int) (hl : l.length ≤ 1000000) : ∃ a e : Int, MostS.rel [zv n l, iv k] [] (.tup [iv a, iv e]) [] := by
  by_cases h : askE n l k = 0
  · obtain ⟨h2, h3⟩ := askE_zero h
    obtain ⟨N, m, rfl, rfl, hv⟩ := vz_of h2
    obtain ⟨q, rfl⟩ := Int.eq_ofNat_of_zero_le (show 0 ≤ k by omega)
    rw [zv_toI]
    exact ⟨_, _, Most_at N m q hv (by omega)⟩
  · exact ⟨_, _, MostN_at n l k hl h⟩
theorem is_ex (n : Int) (l : List Bi) (a : Int) (hl : l.length ≤ 1000000) : ∃ (b : Bool) (e : Int), IsS.rel [zv n l, iv a] [] (.tup [bv b, iv e]) [] := by
  by_cases h : isE n l a = 0
  · unfold isE at h
    split at h
    · rename_i hc; exact absurd h hc
    · split at h
      · cases h
      · rename_i h1 h2
        obtain ⟨N, m, rfl, rfl, hv⟩ := vz_of (show (zchk n l).1 = 0 by simpa using h1)
        obtain ⟨q, rfl⟩ := Int.eq_ofNat_of_zero_le (show 0 ≤ a by omega)
        rw [zv_toI]
        exact ⟨_, _, Is_at N m q hv (by omega)⟩
  · exact ⟨_, _, IsN_at n l a hl h⟩
theorem counts_ex (n : Int) (l : List Bi) (hl : l.length ≤ 1000000) : ∃ (C : List Int) (e : Int), C.length ≤ 1000000 ∧ (frzS CountsS).rel [zv n l] [] (.tup [dI C, iv e]) [] := by
  by_cases h : (zchk n l).1 = 0
  · obtain ⟨N, m, rfl, rfl, hv⟩ := vz_of h
    rw [zv_toI]
    exact ⟨il (cnt m), 0, by rw [il_len]; omega, rfl, rfl, _, _, .inr ⟨N, m, hv, rfl, rfl, rfl, rfl⟩, by
      have : List.take 7 ((il (cnt m)).map encDI) = (il (cnt m)).map encDI := List.take_of_length_le (by simp [il_len])
      simp [frz, frzA, frzAL, frz1, il_len, this]⟩
  · exact ⟨[], (zchk n l).1, by simp, rfl, rfl, _, _, .inl ⟨n, l, hl, h, rfl, rfl, rfl, rfl⟩, by simp [frz, frzA, frzAL, frz1]⟩
abbrev TtlS : Spec := TotS
abbrev rTtlS : Spec := TotS
theorem Ttl_ok : Ok Try.prog 22 TtlS := Tot_ok
theorem rTtl_ok : Ok Try.prog 23 rTtlS := rTot_ok
abbrev MstS : Spec := MostS
abbrev rMstS : Spec := MostS
theorem Mst_ok : Ok Try.prog 27 MstS := Most_ok
theorem rMst_ok : Ok Try.prog 28 rMstS := rMost_ok
abbrev IszS : Spec := IsS
abbrev rIszS : Spec := IsS
theorem Isz_ok : Ok Try.prog 29 IszS := Is_ok
theorem rIsz_ok : Ok Try.prog 30 rIszS := rIs_ok
def ckS : Spec := { rel := fun args ins res outs => ∃ (n : Int) (l : List Bi) (k a : Int), l.length ≤ 9223372036854775807 ∧ args = [zv n l, iv k, iv a] ∧ ins = [] ∧ res = bv true ∧ outs = [] }
set_option maxHeartbeats 8000000 in
theorem ck_ok : Ok Try.prog 4 ckS := by
  refine fn_ok ckS Try.func4 rfl rfl ?_
  rintro args ins res outs ⟨n, l, k, a, hl, rfl, rfl, rfl, rfl⟩
  refine ⟨by simp [Try.ntmps4], fun w0 V Bo mu0 => ?_⟩
  by_cases h1 : (300 : Int) < l.length
  · skip
    repeat' (first
      | (with_reducible first | refine W_seq ?_ | refine W_condT rfl ?_ | refine W_condF rfl ?_ | refine W_tf rfl (fun h => ?_) (fun h => ?_) | refine W_block ?_ | refine W_scope ?_ | refine endQ_ret ?_ | refine endQ_normal ?_)
      | ((with_reducible first | refine hK _ ?_ | refine hK _ _ ?_); clear hK K)
      | ((first | (with_reducible first | refine ops_cons (fun K hK => ?_) | refine opsd_cons (fun K hK => ?_) | refine ops_nil ?_ | refine fit_i64 (by omega) ?_ | refine fit_u8 (by omega) ?_ | refine fit_u64 (by omega) ?_ | refine fit_u32 (by omega) ?_ | refine fit_any ?_ | refine quo_nn (by omega) ?_ | refine rem_nn (by omega) ?_ | refine quo_any ?_ | refine rem_any ?_ | refine sh_in (by simp only [IntKind.bits]; omega) ?_) | ((with_reducible refine opsd_nil ?_); refine And.intro (by kernel_rfl) ?_) | with_reducible refine callV_snap ?_ | ((with_reducible refine call_go awakeS awake_ok ?_); refine ⟨(by first | exact alOk_nil _ | exact alOk_f rfl), _, _, awake_at , ?_⟩) | (with_reducible first | refine slice_old ?_ | refine app_grow ?_ | refine idx_map (by omega) ?_ | refine W_reg lv4BdAC ?_ | refine W_drw lv4BdAC (by kernel_rfl) ?_ | refine W_label ?_ | refine W_skip ?_ | refine W_exit ?_ | refine W_ret ?_ | refine end_at0 ?_) | (with_reducible refine And.intro (fun h => ?_) (fun h => ?_)) | (with_reducible refine And.intro (by omega) ?_)); (try simp only [go_sem, seval, reduceCtorEq, h1, lv4BdAC, Try.ntmps4, Try.results4, ckS]))
      | fail)
  · have hl6 : l.length ≤ 1000000 := by omega
    have ub := Try.underlying4
    obtain ⟨z1, Z1, e1, L1, hN⟩ := new_ex a
    obtain ⟨a2, e2, hT⟩ := tot_ex n l hl6
    obtain ⟨C, e3, LC, hC⟩ := counts_ex n l hl6
    obtain ⟨a4, e4, hM⟩ := most_ex n l k hl6
    obtain ⟨b5, e5, hI⟩ := is_ex n l a hl6
    have NewF_at : NewFS.rel [iv a] [] (.tup [.agg [iv z1, dN Z1], iv e1]) [] := hN
    have rNewF_at : rNewFS.rel [iv a] [] (.tup [.agg [iv z1, dN Z1], iv e1]) [] := hN
    have Ttl_at : TtlS.rel [zv n l] [] (.tup [iv a2, iv e2]) [] := hT
    have rTtl_at : rTtlS.rel [zv n l] [] (.tup [iv a2, iv e2]) [] := hT
    have CountsF_at : CountsFS.rel [zv n l] [] (.tup [dI C, iv e3]) [] := hC
    have rCountsF_at : rCountsFS.rel [zv n l] [] (.tup [dI C, iv e3]) [] := hC
    have Mst_at : MstS.rel [zv n l, iv k] [] (.tup [iv a4, iv e4]) [] := hM
    have rMst_at : rMstS.rel [zv n l, iv k] [] (.tup [iv a4, iv e4]) [] := hM
    have Isz_at : IszS.rel [zv n l, iv a] [] (.tup [bv b5, iv e5]) [] := hI
    have rIsz_at : rIszS.rel [zv n l, iv a] [] (.tup [bv b5, iv e5]) [] := hI
    repeat' (first
      | (with_reducible first | refine W_seq ?_ | refine W_condT rfl ?_ | refine W_condF rfl ?_ | refine W_tf rfl (fun h => ?_) (fun h => ?_) | refine W_block ?_ | refine W_scope ?_ | refine endQ_ret ?_ | refine endQ_normal ?_)
      | ((with_reducible first | refine hK _ ?_ | refine hK _ _ ?_); clear hK K)
      | ((first | (with_reducible first | refine ops_cons (fun K hK => ?_) | refine opsd_cons (fun K hK => ?_) | refine ops_nil ?_ | refine fit_i64 (by omega) ?_ | refine fit_u8 (by omega) ?_ | refine fit_u64 (by omega) ?_ | refine fit_u32 (by omega) ?_ | refine fit_any ?_ | refine quo_nn (by omega) ?_ | refine rem_nn (by omega) ?_ | refine quo_any ?_ | refine rem_any ?_ | refine sh_in (by simp only [IntKind.bits]; omega) ?_) | ((with_reducible refine opsd_nil ?_); refine And.intro (by kernel_rfl) ?_) | with_reducible refine callV_snap ?_ | ((with_reducible refine call_go OwnBFS OwnBF_ok ?_); refine ⟨(by first | exact alOk_nil _ | exact alOk_f rfl), _, _, OwnBF_at n l hl6, ?_⟩) | ((with_reducible refine call_go NewFS NewF_ok ?_); refine ⟨(by first | exact alOk_nil _ | exact alOk_f rfl), _, _, NewF_at , ?_⟩) | ((with_reducible refine call_go rNewFS rNewF_ok ?_); refine ⟨(by first | exact alOk_nil _ | exact alOk_f rfl), _, _, rNewF_at , ?_⟩) | ((with_reducible refine call_go CheckS Check_ok ?_); refine ⟨(by first | exact alOk_nil _ | exact alOk_f rfl), _, _, Check_at n l hl6, ?_⟩) | ((with_reducible refine call_go rCheckS rCheck_ok ?_); refine ⟨(by first | exact alOk_nil _ | exact alOk_f rfl), _, _, rCheck_at n l hl6, ?_⟩) | ((with_reducible refine call_go TtlS Ttl_ok ?_); refine ⟨(by first | exact alOk_nil _ | exact alOk_f rfl), _, _, Ttl_at , ?_⟩) | ((with_reducible refine call_go rTtlS rTtl_ok ?_); refine ⟨(by first | exact alOk_nil _ | exact alOk_f rfl), _, _, rTtl_at , ?_⟩) | ((with_reducible refine call_go CountsFS CountsF_ok ?_); refine ⟨(by first | exact alOk_nil _ | exact alOk_f rfl), _, _, CountsF_at , ?_⟩) | ((with_reducible refine call_go rCountsFS rCountsF_ok ?_); refine ⟨(by first | exact alOk_nil _ | exact alOk_f rfl), _, _, rCountsF_at , ?_⟩) | ((with_reducible refine call_go MstS Mst_ok ?_); refine ⟨(by first | exact alOk_nil _ | exact alOk_f rfl), _, _, Mst_at , ?_⟩) | ((with_reducible refine call_go rMstS rMst_ok ?_); refine ⟨(by first | exact alOk_nil _ | exact alOk_f rfl), _, _, rMst_at , ?_⟩) | ((with_reducible refine call_go IszS Isz_ok ?_); refine ⟨(by first | exact alOk_nil _ | exact alOk_f rfl), _, _, Isz_at , ?_⟩) | ((with_reducible refine call_go rIszS rIsz_ok ?_); refine ⟨(by first | exact alOk_nil _ | exact alOk_f rfl), _, _, rIsz_at , ?_⟩) | ((with_reducible refine call_go SameBS SameB_ok ?_); refine ⟨(by first | exact alOk_nil _ | exact alOk_f rfl), _, _, SameB_at z1 Z1 L1, ?_⟩) | ((with_reducible refine call_go SameIS SameI_ok ?_); refine ⟨(by first | exact alOk_nil _ | exact alOk_f rfl), _, _, SameI_at C LC, ?_⟩) | ((with_reducible refine call_go SameZS SameZ_ok ?_); refine ⟨(by first | exact alOk_nil _ | exact alOk_f rfl), _, _, SameZ_at n l hl6, ?_⟩) | ((with_reducible refine call_go awakeS awake_ok ?_); refine ⟨(by first | exact alOk_nil _ | exact alOk_f rfl), _, _, awake_at , ?_⟩) | (with_reducible first | refine slice_old ?_ | refine app_grow ?_ | refine idx_map (by omega) ?_ | refine W_reg lv4BdAC ?_ | refine W_drw lv4BdAC (by kernel_rfl) ?_ | refine W_label ?_ | refine W_skip ?_ | refine W_exit ?_ | refine W_ret ?_ | refine end_at0 ?_) | (with_reducible refine And.intro (fun h => ?_) (fun h => ?_)) | (with_reducible refine And.intro (by omega) ?_)); (try simp only [go_sem, seval, reduceCtorEq, h1, ub, beq_self_eq_true, lv4BdAC, Try.ntmps4, Try.results4, ckS]))
      | fail)
end Go.Proofs.Ytniiaaagammebaa
