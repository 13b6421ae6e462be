/- buddy.Counts; results as pure data; helpers of the laws about zones; by the engine. -/
import Derived.Test.YtniiaaagammebaaBdU
import Derived.Test.YtniiaaagammebaaBdY
import Derived.Test.YtniiaaagammebaaKitA
namespace Go.Proofs.Ytniiaaagammebaa
open Go.RowKit
set_option maxRecDepth 100000
set_option linter.unusedSimpArgs false
set_option linter.unusedVariables false

abbrev lv24BdZ : List (Nat × List Nat) := [(0, [1]), (1, [1, 4]), (2, [1, 4, 15]), (3, [2, 3]), (4, [1, 6]), (5, [6, 20, 22]), (6, [6, 20, 22, 23]), (7, [6, 7, 8, 20, 22]), (8, [6, 20, 22]), (9, [6, 20, 22]), (10, [2, 3])]
set_option maxHeartbeats 8000000 in
theorem Counts_ok : Ok Try.prog 24 CountsS := by
  refine fn_ok CountsS Try.func24 rfl rfl ?_
  rintro args ins res outs (⟨n, l, hl, hc, rfl, rfl, rfl, rfl⟩ | ⟨N, m, hv, rfl, rfl, rfl, rfl⟩)
  all_goals refine ⟨by simp [Try.ntmps24], fun w0 V Bo mu0 => ?_⟩
  · skip
    repeat' (first
      | (with_reducible first | refine W_seq ?_ | refine W_condT rfl ?_ | refine W_condF rfl ?_ | refine W_tf rfl (fun h => ?_) (fun h => ?_) | refine W_block ?_ | refine W_scope ?_ | refine endQ_ret ?_ | refine endQ_normal ?_)
      | ((with_reducible first | refine hK _ ?_ | refine hK _ _ ?_); clear hK K)
      | ((first | (with_reducible first | refine ops_cons (fun K hK => ?_) | refine opsd_cons (fun K hK => ?_) | refine ops_nil ?_ | refine fit_i64 (by omega) ?_ | refine fit_u8 (by omega) ?_ | refine fit_u64 (by omega) ?_ | refine fit_u32 (by omega) ?_ | refine fit_any ?_ | refine quo_nn (by omega) ?_ | refine rem_nn (by omega) ?_ | refine quo_any ?_ | refine rem_any ?_ | refine sh_in (by simp only [IntKind.bits]; omega) ?_) | ((with_reducible refine opsd_nil ?_); refine And.intro (by kernel_rfl) ?_) | with_reducible refine callV_snap ?_ | ((with_reducible refine call_go CheckS Check_ok ?_); refine ⟨(by first | exact alOk_nil _ | exact alOk_f rfl), _, _, Check_at _ _ hl, ?_⟩) | (with_reducible first | refine slice_old ?_ | refine app_grow ?_ | refine idx_map (by omega) ?_ | refine W_reg lv24BdZ ?_ | refine W_drw lv24BdZ (by kernel_rfl) ?_ | refine W_label ?_ | refine W_skip ?_ | refine W_exit ?_ | refine W_ret ?_ | refine end_at0 ?_) | (with_reducible refine And.intro (fun h => ?_) (fun h => ?_)) | (with_reducible refine And.intro (by omega) ?_)); (try simp only [go_sem, seval, reduceCtorEq, hc, lv24BdZ, Try.ntmps24, Try.results24, CountsS]))
      | fail)
  · have hlen : m.length ≤ 1000000 := by have := hv.v.len; omega
    have hc7 : ((7 : Nat) : Int) = 7 := rfl
    repeat' (first
      | (with_reducible first | refine W_seq ?_ | refine W_condT rfl ?_ | refine W_condF rfl ?_ | refine W_tf rfl (fun h => ?_) (fun h => ?_) | refine W_block ?_ | refine W_scope ?_ | refine endQ_ret ?_ | refine endQ_normal ?_)
      | ((with_reducible first | refine hK _ ?_ | refine hK _ _ ?_); clear hK K)
      | ((first | (with_reducible first | refine ops_cons (fun K hK => ?_) | refine opsd_cons (fun K hK => ?_) | refine ops_nil ?_ | refine fit_i64 (by omega) ?_ | refine fit_u8 (by omega) ?_ | refine fit_u64 (by omega) ?_ | refine fit_u32 (by omega) ?_ | refine fit_any ?_ | refine quo_nn (by omega) ?_ | refine rem_nn (by omega) ?_ | refine quo_any ?_ | refine rem_any ?_ | refine sh_in (by simp only [IntKind.bits]; omega) ?_) | ((with_reducible refine opsd_nil ?_); refine And.intro (by kernel_rfl) ?_) | with_reducible refine callV_snap ?_ | ((with_reducible refine call_go CheckWS CheckW_ok ?_); refine ⟨(by first | exact alOk_nil _ | exact alOk_f rfl), _, _, CheckW_at _ _ hv, ?_⟩) | ((with_reducible refine call_go shelveS shelve_ok ?_); refine ⟨(by first | exact alOk_nil _ | exact alOk_f rfl), _, _, shelve_at m hlen hv.v.bls, ?_⟩) | (with_reducible first | refine slice_old ?_ | refine app_grow ?_ | refine idx_map (by omega) ?_ | refine W_reg lv24BdZ ?_ | refine W_drw lv24BdZ (by kernel_rfl) ?_ | refine W_label ?_ | refine W_skip ?_ | refine W_exit ?_ | refine W_ret ?_ | refine end_at0 ?_) | (with_reducible refine And.intro (fun h => ?_) (fun h => ?_)) | (with_reducible refine And.intro (by omega) ?_)); (try simp only [go_sem, seval, reduceCtorEq, lv24BdZ, Try.ntmps24, Try.results24, CountsS]))
      | fail)
    have hcnt := fun k => shv_cnt m k
    obtain ⟨L, hL⟩ : ∃ L, shv m = L := ⟨_, rfl⟩
    rw [hL] at hcnt ⊢
    refine W_loop (fun x : Nat × (Nat → Nat) => ⟨[(6, .row 0 1 0 7), (20, .ptr 1 0), (22, iv x.1)], some (.rows 3 1 ((il x.2).map encDI)) :: (shBox 2 L :: [rU (L 0), rU (L 1), rU (L 2), rU (L 3), rU (L 4), rU (L 5), rU (L 6)]).map some⟩) (fun x => x.1 ≤ 7 ∧ ∀ j, j < x.1 → x.2 j = cnt m j) (fun x => 7 - x.1) (0, fun _ => 0) ⟨Nat.zero_le _, fun j h => by dsimp only at h; omega⟩ [1, 2, 3, 4, 5, 6, 7, 8, 9] ?_ ?_
    · simp [go_sem]
      rfl
    rintro ⟨k, f⟩ ⟨hk, hf⟩
    dsimp only at hk hf
    simp only [List.map_cons, List.map_nil]
    by_cases h7 : k = 7
    · subst h7
      have e : il f = il (cnt m) := il_congr (fun j hj => hf j hj)
      rw [e]
      have hfl := encI.flat (il (cnt m))
      repeat' (first
        | (with_reducible first | refine W_seq ?_ | refine W_condT rfl ?_ | refine W_condF rfl ?_ | refine W_tf rfl (fun h => ?_) (fun h => ?_) | refine W_block ?_ | refine W_scope ?_ | refine endQ_ret ?_ | refine endQ_normal ?_)
        | ((with_reducible first | refine hK _ ?_ | refine hK _ _ ?_); clear hK K)
        | ((first | (with_reducible first | refine ops_cons (fun K hK => ?_) | refine opsd_cons (fun K hK => ?_) | refine ops_nil ?_ | refine fit_i64 (by omega) ?_ | refine fit_u8 (by omega) ?_ | refine fit_u64 (by omega) ?_ | refine fit_u32 (by omega) ?_ | refine fit_any ?_ | refine quo_nn (by omega) ?_ | refine rem_nn (by omega) ?_ | refine quo_any ?_ | refine rem_any ?_ | refine sh_in (by simp only [IntKind.bits]; omega) ?_) | ((with_reducible refine opsd_nil ?_); refine And.intro (by kernel_rfl) ?_) | with_reducible refine callV_snap ?_ | (with_reducible first | refine slice_old ?_ | refine app_grow ?_ | refine idx_map (by omega) ?_ | refine W_reg lv24BdZ ?_ | refine W_drw lv24BdZ (by kernel_rfl) ?_ | refine W_label ?_ | refine W_skip ?_ | refine W_exit ?_ | refine end_at0 ?_) | (with_reducible refine And.intro (fun h => ?_) (fun h => ?_)) | (with_reducible refine And.intro (by omega) ?_)); (try simp only [go_sem, seval, reduceCtorEq, hc7, lv24BdZ, Try.ntmps24, Try.results24, CountsS]))
        | fail)
      refine W_ret (endQ_ret (end_at [0] ?_))
      simp [go_sem, Try.results24, CountsS]
      simp [flatD, encDI]
    have h67 : k = 0 ∨ k = 1 ∨ k = 2 ∨ k = 3 ∨ k = 4 ∨ k = 5 ∨ k = 6 := by omega
    rcases h67 with rfl | rfl | rfl | rfl | rfl | rfl | rfl
    · have hk' : ((0 : Nat) : Int) = 0 := rfl
      have hlb : 0 < (il f).length := by rw [il_len]; decide
      have hset : ((il f).map encDI).set 0 [.int .i64 ((L 0).length : Int)] = (il (upN f 0 (L 0).length)).map encDI := by rw [← il_set (by decide), List.map_set]; rfl
      repeat' (first
        | (with_reducible first | refine W_seq ?_ | refine W_condT rfl ?_ | refine W_condF rfl ?_ | refine W_tf rfl (fun h => ?_) (fun h => ?_) | refine W_block ?_ | refine W_scope ?_ | refine endQ_ret ?_ | refine endQ_normal ?_)
        | ((with_reducible first | refine hK _ ?_ | refine hK _ _ ?_); clear hK K)
        | ((with_reducible refine idx_map2 hlb ?_); simp only [go_sem, seval, reduceCtorEq, encDI_len, hset])
        | ((first | (with_reducible first | refine ops_cons (fun K hK => ?_) | refine opsd_cons (fun K hK => ?_) | refine ops_nil ?_ | refine fit_i64 (by omega) ?_ | refine fit_u8 (by omega) ?_ | refine fit_u64 (by omega) ?_ | refine fit_u32 (by omega) ?_ | refine fit_any ?_ | refine quo_nn (by omega) ?_ | refine rem_nn (by omega) ?_ | refine quo_any ?_ | refine rem_any ?_ | refine sh_in (by simp only [IntKind.bits]; omega) ?_) | ((with_reducible refine opsd_nil ?_); refine And.intro (by kernel_rfl) ?_) | with_reducible refine callV_snap ?_ | (with_reducible first | refine slice_old ?_ | refine app_grow ?_ | refine idx_map (by omega) ?_ | refine W_reg lv24BdZ ?_ | refine W_drw lv24BdZ (by kernel_rfl) ?_ | refine W_label ?_ | refine W_skip ?_ | refine W_exit ?_ | refine end_at0 ?_) | (with_reducible refine And.intro (fun h => ?_) (fun h => ?_)) | (with_reducible refine And.intro (by omega) ?_)); (try simp only [go_sem, seval, reduceCtorEq, hk', hset, lv24BdZ, Try.ntmps24, Try.results24, CountsS]))
        | fail)
      refine ⟨(1, upN f 0 (L 0).length), [0, 1, 2, 3, 4, 5, 6, 7, 8], ⟨by dsimp only; omega, fun j hj => ?_⟩, by dsimp only; omega, ?_⟩
      · dsimp only at hj ⊢
        unfold upN
        by_cases e : j = 0
        · rw [if_pos e, e]; exact hcnt 0
        · rw [if_neg e]; exact hf j (by omega)
      · simp [go_sem]
        first | exact hset | skip
    · have hk' : ((1 : Nat) : Int) = 1 := rfl
      have hlb : 1 < (il f).length := by rw [il_len]; decide
      have hset : ((il f).map encDI).set 1 [.int .i64 ((L 1).length : Int)] = (il (upN f 1 (L 1).length)).map encDI := by rw [← il_set (by decide), List.map_set]; rfl
      repeat' (first
        | (with_reducible first | refine W_seq ?_ | refine W_condT rfl ?_ | refine W_condF rfl ?_ | refine W_tf rfl (fun h => ?_) (fun h => ?_) | refine W_block ?_ | refine W_scope ?_ | refine endQ_ret ?_ | refine endQ_normal ?_)
        | ((with_reducible first | refine hK _ ?_ | refine hK _ _ ?_); clear hK K)
        | ((with_reducible refine idx_map2 hlb ?_); simp only [go_sem, seval, reduceCtorEq, encDI_len, hset])
        | ((first | (with_reducible first | refine ops_cons (fun K hK => ?_) | refine opsd_cons (fun K hK => ?_) | refine ops_nil ?_ | refine fit_i64 (by omega) ?_ | refine fit_u8 (by omega) ?_ | refine fit_u64 (by omega) ?_ | refine fit_u32 (by omega) ?_ | refine fit_any ?_ | refine quo_nn (by omega) ?_ | refine rem_nn (by omega) ?_ | refine quo_any ?_ | refine rem_any ?_ | refine sh_in (by simp only [IntKind.bits]; omega) ?_) | ((with_reducible refine opsd_nil ?_); refine And.intro (by kernel_rfl) ?_) | with_reducible refine callV_snap ?_ | (with_reducible first | refine slice_old ?_ | refine app_grow ?_ | refine idx_map (by omega) ?_ | refine W_reg lv24BdZ ?_ | refine W_drw lv24BdZ (by kernel_rfl) ?_ | refine W_label ?_ | refine W_skip ?_ | refine W_exit ?_ | refine end_at0 ?_) | (with_reducible refine And.intro (fun h => ?_) (fun h => ?_)) | (with_reducible refine And.intro (by omega) ?_)); (try simp only [go_sem, seval, reduceCtorEq, hk', hset, lv24BdZ, Try.ntmps24, Try.results24, CountsS]))
        | fail)
      refine ⟨(2, upN f 1 (L 1).length), [0, 1, 2, 3, 4, 5, 6, 7, 8], ⟨by dsimp only; omega, fun j hj => ?_⟩, by dsimp only; omega, ?_⟩
      · dsimp only at hj ⊢
        unfold upN
        by_cases e : j = 1
        · rw [if_pos e, e]; exact hcnt 1
        · rw [if_neg e]; exact hf j (by omega)
      · simp [go_sem]
        first | exact hset | skip
    · have hk' : ((2 : Nat) : Int) = 2 := rfl
      have hlb : 2 < (il f).length := by rw [il_len]; decide
      have hset : ((il f).map encDI).set 2 [.int .i64 ((L 2).length : Int)] = (il (upN f 2 (L 2).length)).map encDI := by rw [← il_set (by decide), List.map_set]; rfl
      repeat' (first
        | (with_reducible first | refine W_seq ?_ | refine W_condT rfl ?_ | refine W_condF rfl ?_ | refine W_tf rfl (fun h => ?_) (fun h => ?_) | refine W_block ?_ | refine W_scope ?_ | refine endQ_ret ?_ | refine endQ_normal ?_)
        | ((with_reducible first | refine hK _ ?_ | refine hK _ _ ?_); clear hK K)
        | ((with_reducible refine idx_map2 hlb ?_); simp only [go_sem, seval, reduceCtorEq, encDI_len, hset])
        | ((first | (with_reducible first | refine ops_cons (fun K hK => ?_) | refine opsd_cons (fun K hK => ?_) | refine ops_nil ?_ | refine fit_i64 (by omega) ?_ | refine fit_u8 (by omega) ?_ | refine fit_u64 (by omega) ?_ | refine fit_u32 (by omega) ?_ | refine fit_any ?_ | refine quo_nn (by omega) ?_ | refine rem_nn (by omega) ?_ | refine quo_any ?_ | refine rem_any ?_ | refine sh_in (by simp only [IntKind.bits]; omega) ?_) | ((with_reducible refine opsd_nil ?_); refine And.intro (by kernel_rfl) ?_) | with_reducible refine callV_snap ?_ | (with_reducible first | refine slice_old ?_ | refine app_grow ?_ | refine idx_map (by omega) ?_ | refine W_reg lv24BdZ ?_ | refine W_drw lv24BdZ (by kernel_rfl) ?_ | refine W_label ?_ | refine W_skip ?_ | refine W_exit ?_ | refine end_at0 ?_) | (with_reducible refine And.intro (fun h => ?_) (fun h => ?_)) | (with_reducible refine And.intro (by omega) ?_)); (try simp only [go_sem, seval, reduceCtorEq, hk', hset, lv24BdZ, Try.ntmps24, Try.results24, CountsS]))
        | fail)
      refine ⟨(3, upN f 2 (L 2).length), [0, 1, 2, 3, 4, 5, 6, 7, 8], ⟨by dsimp only; omega, fun j hj => ?_⟩, by dsimp only; omega, ?_⟩
      · dsimp only at hj ⊢
        unfold upN
        by_cases e : j = 2
        · rw [if_pos e, e]; exact hcnt 2
        · rw [if_neg e]; exact hf j (by omega)
      · simp [go_sem]
        first | exact hset | skip
    · have hk' : ((3 : Nat) : Int) = 3 := rfl
      have hlb : 3 < (il f).length := by rw [il_len]; decide
      have hset : ((il f).map encDI).set 3 [.int .i64 ((L 3).length : Int)] = (il (upN f 3 (L 3).length)).map encDI := by rw [← il_set (by decide), List.map_set]; rfl
      repeat' (first
        | (with_reducible first | refine W_seq ?_ | refine W_condT rfl ?_ | refine W_condF rfl ?_ | refine W_tf rfl (fun h => ?_) (fun h => ?_) | refine W_block ?_ | refine W_scope ?_ | refine endQ_ret ?_ | refine endQ_normal ?_)
        | ((with_reducible first | refine hK _ ?_ | refine hK _ _ ?_); clear hK K)
        | ((with_reducible refine idx_map2 hlb ?_); simp only [go_sem, seval, reduceCtorEq, encDI_len, hset])
        | ((first | (with_reducible first | refine ops_cons (fun K hK => ?_) | refine opsd_cons (fun K hK => ?_) | refine ops_nil ?_ | refine fit_i64 (by omega) ?_ | refine fit_u8 (by omega) ?_ | refine fit_u64 (by omega) ?_ | refine fit_u32 (by omega) ?_ | refine fit_any ?_ | refine quo_nn (by omega) ?_ | refine rem_nn (by omega) ?_ | refine quo_any ?_ | refine rem_any ?_ | refine sh_in (by simp only [IntKind.bits]; omega) ?_) | ((with_reducible refine opsd_nil ?_); refine And.intro (by kernel_rfl) ?_) | with_reducible refine callV_snap ?_ | (with_reducible first | refine slice_old ?_ | refine app_grow ?_ | refine idx_map (by omega) ?_ | refine W_reg lv24BdZ ?_ | refine W_drw lv24BdZ (by kernel_rfl) ?_ | refine W_label ?_ | refine W_skip ?_ | refine W_exit ?_ | refine end_at0 ?_) | (with_reducible refine And.intro (fun h => ?_) (fun h => ?_)) | (with_reducible refine And.intro (by omega) ?_)); (try simp only [go_sem, seval, reduceCtorEq, hk', hset, lv24BdZ, Try.ntmps24, Try.results24, CountsS]))
        | fail)
      refine ⟨(4, upN f 3 (L 3).length), [0, 1, 2, 3, 4, 5, 6, 7, 8], ⟨by dsimp only; omega, fun j hj => ?_⟩, by dsimp only; omega, ?_⟩
      · dsimp only at hj ⊢
        unfold upN
        by_cases e : j = 3
        · rw [if_pos e, e]; exact hcnt 3
        · rw [if_neg e]; exact hf j (by omega)
      · simp [go_sem]
        first | exact hset | skip
    · have hk' : ((4 : Nat) : Int) = 4 := rfl
      have hlb : 4 < (il f).length := by rw [il_len]; decide
      have hset : ((il f).map encDI).set 4 [.int .i64 ((L 4).length : Int)] = (il (upN f 4 (L 4).length)).map encDI := by rw [← il_set (by decide), List.map_set]; rfl
      repeat' (first
        | (with_reducible first | refine W_seq ?_ | refine W_condT rfl ?_ | refine W_condF rfl ?_ | refine W_tf rfl (fun h => ?_) (fun h => ?_) | refine W_block ?_ | refine W_scope ?_ | refine endQ_ret ?_ | refine endQ_normal ?_)
        | ((with_reducible first | refine hK _ ?_ | refine hK _ _ ?_); clear hK K)
        | ((with_reducible refine idx_map2 hlb ?_); simp only [go_sem, seval, reduceCtorEq, encDI_len, hset])
        | ((first | (with_reducible first | refine ops_cons (fun K hK => ?_) | refine opsd_cons (fun K hK => ?_) | refine ops_nil ?_ | refine fit_i64 (by omega) ?_ | refine fit_u8 (by omega) ?_ | refine fit_u64 (by omega) ?_ | refine fit_u32 (by omega) ?_ | refine fit_any ?_ | refine quo_nn (by omega) ?_ | refine rem_nn (by omega) ?_ | refine quo_any ?_ | refine rem_any ?_ | refine sh_in (by simp only [IntKind.bits]; omega) ?_) | ((with_reducible refine opsd_nil ?_); refine And.intro (by kernel_rfl) ?_) | with_reducible refine callV_snap ?_ | (with_reducible first | refine slice_old ?_ | refine app_grow ?_ | refine idx_map (by omega) ?_ | refine W_reg lv24BdZ ?_ | refine W_drw lv24BdZ (by kernel_rfl) ?_ | refine W_label ?_ | refine W_skip ?_ | refine W_exit ?_ | refine end_at0 ?_) | (with_reducible refine And.intro (fun h => ?_) (fun h => ?_)) | (with_reducible refine And.intro (by omega) ?_)); (try simp only [go_sem, seval, reduceCtorEq, hk', hset, lv24BdZ, Try.ntmps24, Try.results24, CountsS]))
        | fail)
      refine ⟨(5, upN f 4 (L 4).length), [0, 1, 2, 3, 4, 5, 6, 7, 8], ⟨by dsimp only; omega, fun j hj => ?_⟩, by dsimp only; omega, ?_⟩
      · dsimp only at hj ⊢
        unfold upN
        by_cases e : j = 4
        · rw [if_pos e, e]; exact hcnt 4
        · rw [if_neg e]; exact hf j (by omega)
      · simp [go_sem]
        first | exact hset | skip
    · have hk' : ((5 : Nat) : Int) = 5 := rfl
      have hlb : 5 < (il f).length := by rw [il_len]; decide
      have hset : ((il f).map encDI).set 5 [.int .i64 ((L 5).length : Int)] = (il (upN f 5 (L 5).length)).map encDI := by rw [← il_set (by decide), List.map_set]; rfl
      repeat' (first
        | (with_reducible first | refine W_seq ?_ | refine W_condT rfl ?_ | refine W_condF rfl ?_ | refine W_tf rfl (fun h => ?_) (fun h => ?_) | refine W_block ?_ | refine W_scope ?_ | refine endQ_ret ?_ | refine endQ_normal ?_)
        | ((with_reducible first | refine hK _ ?_ | refine hK _ _ ?_); clear hK K)
        | ((with_reducible refine idx_map2 hlb ?_); simp only [go_sem, seval, reduceCtorEq, encDI_len, hset])
        | ((first | (with_reducible first | refine ops_cons (fun K hK => ?_) | refine opsd_cons (fun K hK => ?_) | refine ops_nil ?_ | refine fit_i64 (by omega) ?_ | refine fit_u8 (by omega) ?_ | refine fit_u64 (by omega) ?_ | refine fit_u32 (by omega) ?_ | refine fit_any ?_ | refine quo_nn (by omega) ?_ | refine rem_nn (by omega) ?_ | refine quo_any ?_ | refine rem_any ?_ | refine sh_in (by simp only [IntKind.bits]; omega) ?_) | ((with_reducible refine opsd_nil ?_); refine And.intro (by kernel_rfl) ?_) | with_reducible refine callV_snap ?_ | (with_reducible first | refine slice_old ?_ | refine app_grow ?_ | refine idx_map (by omega) ?_ | refine W_reg lv24BdZ ?_ | refine W_drw lv24BdZ (by kernel_rfl) ?_ | refine W_label ?_ | refine W_skip ?_ | refine W_exit ?_ | refine end_at0 ?_) | (with_reducible refine And.intro (fun h => ?_) (fun h => ?_)) | (with_reducible refine And.intro (by omega) ?_)); (try simp only [go_sem, seval, reduceCtorEq, hk', hset, lv24BdZ, Try.ntmps24, Try.results24, CountsS]))
        | fail)
      refine ⟨(6, upN f 5 (L 5).length), [0, 1, 2, 3, 4, 5, 6, 7, 8], ⟨by dsimp only; omega, fun j hj => ?_⟩, by dsimp only; omega, ?_⟩
      · dsimp only at hj ⊢
        unfold upN
        by_cases e : j = 5
        · rw [if_pos e, e]; exact hcnt 5
        · rw [if_neg e]; exact hf j (by omega)
      · simp [go_sem]
        first | exact hset | skip
    · have hk' : ((6 : Nat) : Int) = 6 := rfl
      have hlb : 6 < (il f).length := by rw [il_len]; decide
      have hset : ((il f).map encDI).set 6 [.int .i64 ((L 6).length : Int)] = (il (upN f 6 (L 6).length)).map encDI := by rw [← il_set (by decide), List.map_set]; rfl
      repeat' (first
        | (with_reducible first | refine W_seq ?_ | refine W_condT rfl ?_ | refine W_condF rfl ?_ | refine W_tf rfl (fun h => ?_) (fun h => ?_) | refine W_block ?_ | refine W_scope ?_ | refine endQ_ret ?_ | refine endQ_normal ?_)
        | ((with_reducible first | refine hK _ ?_ | refine hK _ _ ?_); clear hK K)
        | ((with_reducible refine idx_map2 hlb ?_); simp only [go_sem, seval, reduceCtorEq, encDI_len, hset])
        | ((first | (with_reducible first | refine ops_cons (fun K hK => ?_) | refine opsd_cons (fun K hK => ?_) | refine ops_nil ?_ | refine fit_i64 (by omega) ?_ | refine fit_u8 (by omega) ?_ | refine fit_u64 (by omega) ?_ | refine fit_u32 (by omega) ?_ | refine fit_any ?_ | refine quo_nn (by omega) ?_ | refine rem_nn (by omega) ?_ | refine quo_any ?_ | refine rem_any ?_ | refine sh_in (by simp only [IntKind.bits]; omega) ?_) | ((with_reducible refine opsd_nil ?_); refine And.intro (by kernel_rfl) ?_) | with_reducible refine callV_snap ?_ | (with_reducible first | refine slice_old ?_ | refine app_grow ?_ | refine idx_map (by omega) ?_ | refine W_reg lv24BdZ ?_ | refine W_drw lv24BdZ (by kernel_rfl) ?_ | refine W_label ?_ | refine W_skip ?_ | refine W_exit ?_ | refine end_at0 ?_) | (with_reducible refine And.intro (fun h => ?_) (fun h => ?_)) | (with_reducible refine And.intro (by omega) ?_)); (try simp only [go_sem, seval, reduceCtorEq, hk', hset, lv24BdZ, Try.ntmps24, Try.results24, CountsS]))
        | fail)
      refine ⟨(7, upN f 6 (L 6).length), [0, 1, 2, 3, 4, 5, 6, 7, 8], ⟨by dsimp only; omega, fun j hj => ?_⟩, by dsimp only; omega, ?_⟩
      · dsimp only at hj ⊢
        unfold upN
        by_cases e : j = 6
        · rw [if_pos e, e]; exact hcnt 6
        · rw [if_neg e]; exact hf j (by omega)
      · simp [go_sem]
        first | exact hset | skip

/-! ### results as pure data -/
def frzS (s : Spec) : Spec := { al := true, rel := fun args ins res outs => ins = [] ∧ outs = [] ∧ ∃ res' outs', s.rel args [] res' outs' ∧ frz outs' res' = some res }
theorem frzS_ok {P : Program} {f : FuncId} {s : Spec} (h : Ok P f s) : Ok P f (frzS s) := ok_frz h (frzS s) rfl (fun args ins res' outs' hr => hr)
abbrev AllocFS : Spec := frzS AllocS
abbrev FreeFS : Spec := frzS FreeS
abbrev TakeFS : Spec := frzS TakeS
abbrev NewFS : Spec := frzS NewS
abbrev CountsFS : Spec := frzS CountsS
abbrev rAllocFS : Spec := frzS AllocS
abbrev rFreeFS : Spec := frzS FreeS
abbrev rTakeFS : Spec := frzS TakeS
abbrev rNewFS : Spec := frzS NewS
abbrev rCountsFS : Spec := frzS CountsS
theorem AllocF_ok : Ok Try.prog 11 AllocFS := frzS_ok Alloc_ok
theorem FreeF_ok : Ok Try.prog 14 FreeFS := frzS_ok Free_ok
theorem TakeF_ok : Ok Try.prog 16 TakeFS := frzS_ok Take_ok
theorem NewF_ok : Ok Try.prog 18 NewFS := frzS_ok New_ok
theorem CountsF_ok : Ok Try.prog 24 CountsFS := frzS_ok Counts_ok
theorem rAllocF_ok : Ok Try.prog 12 rAllocFS := frzS_ok rAlloc_ok
theorem rFreeF_ok : Ok Try.prog 15 rFreeFS := frzS_ok rFree_ok
theorem rTakeF_ok : Ok Try.prog 17 rTakeFS := frzS_ok rTake_ok
theorem rNewF_ok : Ok Try.prog 19 rNewFS := frzS_ok rNew_ok
theorem rCountsF_ok : Ok Try.prog 25 rCountsFS := frzS_ok rCounts_ok
theorem frz_z (N : Nat) (Z : List Bl) (xs : List AV) (ys : List D) (hx : xs = ys.map .d) : frz [.rows 50 2 (Z.map encN)] (.tup (.agg [iv N, .row 0 2 0 Z.length] :: xs)) = some (.tup (.agg [iv N, dN Z] :: xs)) := by
  subst hx
  have : frzAL [.rows 50 2 (Z.map encN)] (ys.map .d) = some (ys.map .d) := by
    induction ys with
    | nil => rfl
    | cons y ys ih => simp [frzAL, frzA, frz1, ih]
  simp [frz, frzA, frzAL, frzL, frz1, this, List.take_of_length_le]
theorem frz_e (outs : List Ob) (xs : List AV) (ys : List D) (hx : xs = ys.map .d) : frz outs (.tup (.agg [iv 0, .nil] :: xs)) = some (.tup (.agg [iv 0, dN []] :: xs)) := by
  subst hx
  have : frzAL outs (ys.map .d) = some (ys.map .d) := by
    induction ys with
    | nil => rfl
    | cons y ys ih => simp [frzAL, frzA, frz1, ih]
  simp [frz, frzA, frzAL, frzL, frz1, this]
theorem bld_le {N : Nat} {f : Nat → Bool} (h : N ≤ 256) : (bld N f).length ≤ 1000000 := by
  have key : ∀ n a, (bldG N f n a).length ≤ n := by
    intro n
    induction n with
    | zero => intro a; simp [bldG]
    | succ n ih =>
      intro a
      rw [bldG]
      split
      · split
        · have := ih (a + 2 ^ bst N f a 7); simp; omega
        · have := ih (a + 1); omega
      · simp
  have := key N 0
  unfold bld; omega
theorem alloc_ex (n : Int) (l : List Bi) (k : Int) (hl : l.length ≤ 1000000) : ∃ (z : Int) (Z : List Bl) (w e : Int), Z.length ≤ 1000000 ∧ (frzS AllocS).rel [zv n l, iv k] [] (.tup [.agg [iv z, dN Z], iv w, iv e]) [] := by
  by_cases h1 : askE n l k = 0
  case neg => exact ⟨0, [], 0, askE n l k, by simp, rfl, rfl, _, _, .inl ⟨n, l, k, hl, h1, rfl, rfl, rfl, rfl⟩, frz_e [] _ [.int .i64 0, .int .i64 (askE n l k)] rfl⟩
  obtain ⟨h2, h3⟩ := askE_zero h1
  obtain ⟨N, m, rfl, rfl, hv⟩ := vz_of h2
  obtain ⟨q, rfl⟩ := Int.eq_ofNat_of_zero_le (show 0 ≤ k by omega)
  rw [zv_toI]
  by_cases h4 : ∀ c ∈ m, c.2 < q
  · exact ⟨0, [], 0, 5, by simp, rfl, rfl, _, _, .inr (.inl ⟨N, m, q, hv, by omega, h4, rfl, rfl, rfl, rfl⟩), frz_e [] _ [.int .i64 0, .int .i64 5] rfl⟩
  · obtain ⟨b, hb⟩ : ∃ b, Best m q b := by
      have key : ∀ l : List Bl, (∃ c ∈ l, q ≤ c.2) → ∃ b, b ∈ l ∧ q ≤ b.2 ∧ (∀ c ∈ l, q ≤ c.2 → b.2 ≤ c.2) ∧ (∀ c ∈ l, c.2 = b.2 → b.1 ≤ c.1) := by
        intro l
        induction l with
        | nil => rintro ⟨c, hc, _⟩; cases hc
        | cons x l ih =>
          intro hex
          by_cases hl2 : ∃ c ∈ l, q ≤ c.2
          · obtain ⟨b, b1, b2, b3, b4⟩ := ih hl2
            by_cases hx : q ≤ x.2 ∧ (x.2 < b.2 ∨ (x.2 = b.2 ∧ x.1 ≤ b.1))
            · refine ⟨x, by simp, hx.1, fun c hc hq => ?_, fun c hc he => ?_⟩
              · rcases List.mem_cons.1 hc with rfl | hc
                · exact Nat.le_refl _
                · have := b3 c hc hq; omega
              · rcases List.mem_cons.1 hc with rfl | hc
                · exact Nat.le_refl _
                · rcases hx.2 with h | h
                  · have := b3 c hc (by omega); omega
                  · have := b4 c hc (by omega); omega
            · refine ⟨b, by simp [b1], b2, fun c hc hq => ?_, fun c hc he => ?_⟩
              · rcases List.mem_cons.1 hc with rfl | hc
                · omega
                · exact b3 c hc hq
              · rcases List.mem_cons.1 hc with rfl | hc
                · omega
                · exact b4 c hc he
          · obtain ⟨c, hc, hq⟩ := hex
            rcases List.mem_cons.1 hc with rfl | hc
            · refine ⟨c, by simp, hq, fun d hd hq2 => ?_, fun d hd he => ?_⟩
              · rcases List.mem_cons.1 hd with rfl | hd
                · exact Nat.le_refl _
                · exact absurd ⟨d, hd, hq2⟩ hl2
              · rcases List.mem_cons.1 hd with rfl | hd
                · exact Nat.le_refl _
                · exact absurd ⟨d, hd, by omega⟩ hl2
            · exact absurd ⟨c, hc, hq⟩ hl2
      have h5 : ∃ c ∈ m, q ≤ c.2 := by
        rcases Classical.em (∃ c ∈ m, q ≤ c.2) with h | h
        · exact h
        · exact absurd (fun c hc => by
            rcases Nat.lt_or_ge c.2 q with h6 | h6
            · exact h6
            · exact absurd ⟨c, hc, h6⟩ h) h4
      obtain ⟨b, b1, b2, b3, b4⟩ := key m h5
      exact ⟨b, b1, b2, b3, b4⟩
    exact ⟨N, bld N (frA m b.1 q), b.1, 0, bld_le hv.v.n, rfl, rfl, _, _, .inr (.inr ⟨N, m, q, b, hv, by omega, hb, rfl, rfl, rfl, rfl⟩), frz_z N _ _ [.int .i64 (b.1 : Int), .int .i64 0] rfl⟩
theorem free_ex (n : Int) (l : List Bi) (a k : Int) (hl : l.length ≤ 1000000) : ∃ (z : Int) (Z : List Bl) (e : Int), Z.length ≤ 1000000 ∧ (frzS FreeS).rel [zv n l, iv a, iv k] [] (.tup [.agg [iv z, dN Z], iv e]) [] := by
  by_cases h1 : askB n l a k = 0
  case neg => exact ⟨0, [], askB n l a k, by simp, rfl, rfl, _, _, .inl ⟨n, l, a, k, hl, h1, rfl, rfl, rfl, rfl⟩, frz_e [] _ [.int .i64 (askB n l a k)] rfl⟩
  obtain ⟨N, m, w, q, rfl, rfl, rfl, rfl, hv⟩ := vb_of h1
  rw [zv_toI]
  rcases Classical.em (Nofr m w q) with h2 | h2
  · exact ⟨N, bld N (frF m w q), 0, bld_le hv.z.v.n, rfl, rfl, _, _, .inr (.inr ⟨N, m, w, q, hv, h2, rfl, rfl, rfl, rfl⟩), frz_z N _ _ [.int .i64 0] rfl⟩
  · exact ⟨0, [], 7, by simp, rfl, rfl, _, _, .inr (.inl ⟨N, m, w, q, hv, h2, rfl, rfl, rfl, rfl⟩), frz_e [] _ [.int .i64 7] rfl⟩
theorem take_ex (n : Int) (l : List Bi) (a k : Int) (hl : l.length ≤ 1000000) : ∃ (z : Int) (Z : List Bl) (e : Int), Z.length ≤ 1000000 ∧ (frzS TakeS).rel [zv n l, iv a, iv k] [] (.tup [.agg [iv z, dN Z], iv e]) [] := by
  by_cases h1 : askB n l a k = 0
  case neg => exact ⟨0, [], askB n l a k, by simp, rfl, rfl, _, _, .inl ⟨n, l, a, k, hl, h1, rfl, rfl, rfl, rfl⟩, frz_e [] _ [.int .i64 (askB n l a k)] rfl⟩
  obtain ⟨N, m, w, q, rfl, rfl, rfl, rfl, hv⟩ := vb_of h1
  rw [zv_toI]
  rcases Classical.em (Allfr m w q) with h2 | h2
  · exact ⟨N, bld N (frA m w q), 0, bld_le hv.z.v.n, rfl, rfl, _, _, .inr (.inr ⟨N, m, w, q, hv, h2, rfl, rfl, rfl, rfl⟩), frz_z N _ _ [.int .i64 0] rfl⟩
  · exact ⟨0, [], 5, by simp, rfl, rfl, _, _, .inr (.inl ⟨N, m, w, q, hv, h2, rfl, rfl, rfl, rfl⟩), frz_e [] _ [.int .i64 5] rfl⟩
theorem new_ex (n : Int) : ∃ (z : Int) (Z : List Bl) (e : Int), Z.length ≤ 1000000 ∧ (frzS NewS).rel [iv n] [] (.tup [.agg [iv z, dN Z], iv e]) [] := by
  by_cases h1 : n < 0 ∨ 256 < n
  · exact ⟨0, [], 2, by simp, rfl, rfl, _, _, .inl ⟨n, h1, rfl, rfl, rfl, rfl⟩, frz_e [] _ [.int .i64 2] rfl⟩
  · obtain ⟨N, rfl⟩ := Int.eq_ofNat_of_zero_le (show 0 ≤ n by omega)
    exact ⟨N, bld N (fun i => decide (i < N)), 0, bld_le (by omega), rfl, rfl, _, _, .inr ⟨N, by omega, rfl, rfl, rfl, rfl⟩, frz_z N _ _ [.int .i64 0] rfl⟩
end Go.Proofs.Ytniiaaagammebaa
