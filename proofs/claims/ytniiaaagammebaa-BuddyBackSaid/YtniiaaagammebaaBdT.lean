/- The specification's Total, Most, Is, Counts, Alloc; buddy.Counts and buddy.New; by the engine. -/
import Derived.Test.YtniiaaagammebaaBdS
namespace Go.Proofs.Ytniiaaagammebaa
open Go.RowKit
set_option maxRecDepth 100000
set_option linter.unusedSimpArgs false
set_option linter.unusedVariables false

abbrev lv23BdT : List (Nat × List Nat) := [(0, [1]), (1, [1, 4]), (2, [1, 4, 14]), (3, [2, 3]), (4, [1, 6]), (5, [1, 6, 7]), (6, [1, 6, 7, 20]), (7, [1, 6, 7]), (8, [1, 6, 7]), (9, [2, 3])]
abbrev lv25BdT : List (Nat × List Nat) := [(0, [1]), (1, [1, 4]), (2, [1, 4, 14]), (3, [2, 3]), (4, [1, 6]), (5, [1, 6, 7]), (6, [1, 6, 7, 21]), (7, [1, 6, 7]), (8, [1, 6, 7]), (9, [2, 3])]
abbrev lv28BdT : List (Nat × List Nat) := [(0, [1, 2]), (1, [1, 2, 6]), (2, [1, 2, 6, 13]), (3, [4, 5]), (4, [1, 2, 7]), (5, [1, 2, 7, 8]), (6, [1, 2, 7, 8, 19]), (7, [1, 2, 7, 8]), (8, [1, 2, 7, 8]), (9, [4, 5])]
abbrev lv30BdT : List (Nat × List Nat) := [(0, [1, 2]), (1, [1, 2, 6]), (2, [1, 2, 6, 14]), (3, [4, 5]), (4, [1, 2, 23]), (5, [4, 5]), (6, [4, 5])]
abbrev rCheckWS : Spec := CheckS
theorem rCheckW_ok : Ok Try.prog 21 rCheckWS := rCheck_ok
theorem rCheckW_at (N : Nat) (m : List Bl) (h : Vz N m) : rCheckWS.rel [.agg [iv N, dN m]] [] (.tup [iv 0, iv 0]) [] := CheckW_at N m h
def zbox (N : Nat) (m : List Bl) : Option Ob := some (.box 24 [iv N, dN m])

def TotS : Spec := { rel := fun args ins res outs => (∃ (n : Int) (l : List Bi), l.length ≤ 1000000 ∧ (zchk n l).1 ≠ 0 ∧ args = [zv n l] ∧ ins = [] ∧ res = .tup [iv 0, iv (zchk n l).1] ∧ outs = []) ∨
  ∃ (N : Nat) (m : List Bl), Vz N m ∧ args = [.agg [iv N, dN m]] ∧ ins = [] ∧ res = .tup [iv (tot m), iv 0] ∧ outs = [] }
theorem TotN_at (n : Int) (l : List Bi) (h : l.length ≤ 1000000) (hc : (zchk n l).1 ≠ 0) : TotS.rel [zv n l] [] (.tup [iv 0, iv (zchk n l).1]) [] := .inl ⟨n, l, h, hc, rfl, rfl, rfl, rfl⟩
theorem Tot_at (N : Nat) (m : List Bl) (h : Vz N m) : TotS.rel [.agg [iv N, dN m]] [] (.tup [iv (tot m), iv 0]) [] := .inr ⟨N, m, h, rfl, rfl, rfl, rfl⟩
theorem Tot_ok : Ok Try.prog 22 TotS := by
  refine ⟨Total_ok.1, fun args ins res outs hrel => Total_ok.2 args ins res outs ?_⟩
  rcases hrel with ⟨n, l, h, hc, rfl, rfl, rfl, rfl⟩ | ⟨N, m, h, rfl, rfl, rfl, rfl⟩
  · exact TotalN_at n l h hc
  · exact Total_at N m h.v h.c1
set_option maxHeartbeats 2000000 in
theorem rTot_ok : Ok Try.prog 23 TotS := by
  refine fn_ok TotS Try.func23 rfl rfl ?_
  rintro args ins res outs (⟨n, l, hl, hc, rfl, rfl, rfl, rfl⟩ | ⟨N, m, hv, rfl, rfl, rfl, rfl⟩)
  all_goals refine ⟨by simp [Try.ntmps23], fun w0 V Bo mu0 => ?_⟩
  · skip
    repeat' (first
      | (with_reducible first | refine W_seq ?_ | refine W_condT rfl ?_ | refine W_condF rfl ?_ | refine W_tf rfl (fun h => ?_) (fun h => ?_) | refine W_block ?_ | refine W_scope ?_ | refine endQ_ret ?_ | refine endQ_normal ?_)
      | ((with_reducible first | refine hK _ ?_ | refine hK _ _ ?_); clear hK K)
      | ((first | (with_reducible first | refine ops_cons (fun K hK => ?_) | refine opsd_cons (fun K hK => ?_) | refine ops_nil ?_ | refine fit_i64 (by omega) ?_ | refine fit_u8 (by omega) ?_ | refine fit_u64 (by omega) ?_ | refine fit_u32 (by omega) ?_ | refine fit_any ?_ | refine quo_nn (by omega) ?_ | refine rem_nn (by omega) ?_ | refine quo_any ?_ | refine rem_any ?_ | refine sh_in (by simp only [IntKind.bits]; omega) ?_) | ((with_reducible refine opsd_nil ?_); refine And.intro (by kernel_rfl) ?_) | with_reducible refine callV_snap ?_ | ((with_reducible refine call_go rCheckS rCheck_ok ?_); refine ⟨(by first | exact alOk_nil _ | exact alOk_f rfl), _, _, rCheck_at _ _ hl, ?_⟩) | (with_reducible first | refine slice_old ?_ | refine app_grow ?_ | refine idx_map (by omega) ?_ | refine W_reg lv23BdT ?_ | refine W_drw lv23BdT (by kernel_rfl) ?_ | refine W_label ?_ | refine W_skip ?_ | refine W_exit ?_ | refine W_ret ?_ | refine end_at0 ?_) | (with_reducible refine And.intro (fun h => ?_) (fun h => ?_)) | (with_reducible refine And.intro (by omega) ?_)); (try simp only [go_sem, seval, reduceCtorEq, hc, lv23BdT, Try.ntmps23, Try.results23, TotS]))
      | fail)
  · have hlen := hv.v.len
    have h6 : ∀ b ∈ m, b.2 ≤ 6 := fun b hb => (hv.v.bls.rng b hb).2
    repeat' (first
      | (with_reducible first | refine W_seq ?_ | refine W_condT rfl ?_ | refine W_condF rfl ?_ | refine W_tf rfl (fun h => ?_) (fun h => ?_) | refine W_block ?_ | refine W_scope ?_ | refine endQ_ret ?_ | refine endQ_normal ?_)
      | ((with_reducible first | refine hK _ ?_ | refine hK _ _ ?_); clear hK K)
      | ((first | (with_reducible first | refine ops_cons (fun K hK => ?_) | refine opsd_cons (fun K hK => ?_) | refine ops_nil ?_ | refine fit_i64 (by omega) ?_ | refine fit_u8 (by omega) ?_ | refine fit_u64 (by omega) ?_ | refine fit_u32 (by omega) ?_ | refine fit_any ?_ | refine quo_nn (by omega) ?_ | refine rem_nn (by omega) ?_ | refine quo_any ?_ | refine rem_any ?_ | refine sh_in (by simp only [IntKind.bits]; omega) ?_) | ((with_reducible refine opsd_nil ?_); refine And.intro (by kernel_rfl) ?_) | with_reducible refine callV_snap ?_ | ((with_reducible refine call_go rCheckWS rCheckW_ok ?_); refine ⟨(by first | exact alOk_nil _ | exact alOk_f rfl), _, _, rCheckW_at _ _ hv, ?_⟩) | (with_reducible first | refine slice_old ?_ | refine app_grow ?_ | refine idx_map (by omega) ?_ | refine W_reg lv23BdT ?_ | refine W_drw lv23BdT (by kernel_rfl) ?_ | refine W_label ?_ | refine W_skip ?_ | refine W_exit ?_ | refine W_ret ?_ | refine end_at0 ?_) | (with_reducible refine And.intro (fun h => ?_) (fun h => ?_)) | (with_reducible refine And.intro (by omega) ?_)); (try simp only [go_sem, seval, reduceCtorEq, lv23BdT, Try.ntmps23, Try.results23, TotS]))
      | fail)
    refine W_loop (fun i : Nat => ⟨[(1, .ptr 0 0), (6, iv (totTo m i)), (7, iv i)], [some (.box 24 [iv N, dN m])]⟩) (fun i => i ≤ m.length) (fun i => m.length - i) 0 (Nat.zero_le _) [0] ?_ ?_
    · simp [go_sem, totTo]
    intro i hi
    have ht := totTo_le m h6 i hi
    by_cases hlt : i < m.length
    · have hki : (i : Int) < m.length := by omega
      have r2 := h6 _ (List.getElem_mem hlt)
      have hp := p64 _ r2
      have hst := totTo_step m i hlt
      repeat' (first
        | (with_reducible first | refine W_seq ?_ | refine W_condT rfl ?_ | refine W_condF rfl ?_ | refine W_tf rfl (fun h => ?_) (fun h => ?_) | refine W_block ?_ | refine W_scope ?_ | refine endQ_ret ?_ | refine endQ_normal ?_)
        | ((with_reducible first | refine hK _ ?_ | refine hK _ _ ?_); clear hK K)
        | ((first | (with_reducible first | refine ops_cons (fun K hK => ?_) | refine opsd_cons (fun K hK => ?_) | refine ops_nil ?_ | refine fit_i64 (by omega) ?_ | refine fit_u8 (by omega) ?_ | refine fit_u64 (by omega) ?_ | refine fit_u32 (by omega) ?_ | refine fit_any ?_ | refine quo_nn (by omega) ?_ | refine rem_nn (by omega) ?_ | refine quo_any ?_ | refine rem_any ?_ | refine sh_in (by simp only [IntKind.bits]; omega) ?_) | ((with_reducible refine opsd_nil ?_); refine And.intro (by kernel_rfl) ?_) | with_reducible refine callV_snap ?_ | ((with_reducible refine call_go nsizeS nsize_ok ?_); refine ⟨(by first | exact alOk_nil _ | exact alOk_f rfl), _, _, nsize_at _ r2, ?_⟩) | (with_reducible first | refine slice_old ?_ | refine app_grow ?_ | refine idx_map (by omega) ?_ | refine W_reg lv23BdT ?_ | refine W_drw lv23BdT (by kernel_rfl) ?_ | refine W_label ?_ | refine W_skip ?_ | refine W_exit ?_ | refine W_ret ?_ | refine end_at0 ?_) | (with_reducible refine And.intro (fun h => ?_) (fun h => ?_)) | (with_reducible refine And.intro (by omega) ?_)); (try simp only [go_sem, seval, reduceCtorEq, hki, encN, lv23BdT, Try.ntmps23, Try.results23, TotS]))
        | fail)
      refine ⟨i + 1, [0], by omega, by omega, ?_⟩
      simp [go_sem, hst]
    · have hki : ¬ (i : Int) < m.length := by omega
      obtain rfl : i = m.length := by omega
      have e : totTo m m.length = tot m := rfl
      repeat' (first
        | (with_reducible first | refine W_seq ?_ | refine W_condT rfl ?_ | refine W_condF rfl ?_ | refine W_tf rfl (fun h => ?_) (fun h => ?_) | refine W_block ?_ | refine W_scope ?_ | refine endQ_ret ?_ | refine endQ_normal ?_)
        | ((with_reducible first | refine hK _ ?_ | refine hK _ _ ?_); clear hK K)
        | ((first | (with_reducible first | refine ops_cons (fun K hK => ?_) | refine opsd_cons (fun K hK => ?_) | refine ops_nil ?_ | refine fit_i64 (by omega) ?_ | refine fit_u8 (by omega) ?_ | refine fit_u64 (by omega) ?_ | refine fit_u32 (by omega) ?_ | refine fit_any ?_ | refine quo_nn (by omega) ?_ | refine rem_nn (by omega) ?_ | refine quo_any ?_ | refine rem_any ?_ | refine sh_in (by simp only [IntKind.bits]; omega) ?_) | ((with_reducible refine opsd_nil ?_); refine And.intro (by kernel_rfl) ?_) | with_reducible refine callV_snap ?_ | (with_reducible first | refine slice_old ?_ | refine app_grow ?_ | refine idx_map (by omega) ?_ | refine W_reg lv23BdT ?_ | refine W_drw lv23BdT (by kernel_rfl) ?_ | refine W_label ?_ | refine W_skip ?_ | refine W_exit ?_ | refine W_ret ?_ | refine end_at0 ?_) | (with_reducible refine And.intro (fun h => ?_) (fun h => ?_)) | (with_reducible refine And.intro (by omega) ?_)); (try simp only [go_sem, seval, reduceCtorEq, hki, e, lv23BdT, Try.ntmps23, Try.results23, TotS]))
        | fail)

set_option maxHeartbeats 2000000 in
theorem rMost_ok : Ok Try.prog 28 MostS := by
  refine fn_ok MostS Try.func28 rfl rfl ?_
  rintro args ins res outs (⟨n, l, k, hl, hc, rfl, rfl, rfl, rfl⟩ | ⟨N, m, k, hv, hk, rfl, rfl, rfl, rfl⟩)
  all_goals refine ⟨by simp [Try.ntmps28], fun w0 V Bo mu0 => ?_⟩
  · skip
    repeat' (first
      | (with_reducible first | refine W_seq ?_ | refine W_condT rfl ?_ | refine W_condF rfl ?_ | refine W_tf rfl (fun h => ?_) (fun h => ?_) | refine W_block ?_ | refine W_scope ?_ | refine endQ_ret ?_ | refine endQ_normal ?_)
      | ((with_reducible first | refine hK _ ?_ | refine hK _ _ ?_); clear hK K)
      | ((first | (with_reducible first | refine ops_cons (fun K hK => ?_) | refine opsd_cons (fun K hK => ?_) | refine ops_nil ?_ | refine fit_i64 (by omega) ?_ | refine fit_u8 (by omega) ?_ | refine fit_u64 (by omega) ?_ | refine fit_u32 (by omega) ?_ | refine fit_any ?_ | refine quo_nn (by omega) ?_ | refine rem_nn (by omega) ?_ | refine quo_any ?_ | refine rem_any ?_ | refine sh_in (by simp only [IntKind.bits]; omega) ?_) | ((with_reducible refine opsd_nil ?_); refine And.intro (by kernel_rfl) ?_) | with_reducible refine callV_snap ?_ | ((with_reducible refine call_go rasksS rasks_ok ?_); refine ⟨(by first | exact alOk_nil _ | exact alOk_f rfl), _, _, rasks_at _ _ _ hl, ?_⟩) | (with_reducible first | refine slice_old ?_ | refine app_grow ?_ | refine idx_map (by omega) ?_ | refine W_reg lv28BdT ?_ | refine W_drw lv28BdT (by kernel_rfl) ?_ | refine W_label ?_ | refine W_skip ?_ | refine W_exit ?_ | refine W_ret ?_ | refine end_at0 ?_) | (with_reducible refine And.intro (fun h => ?_) (fun h => ?_)) | (with_reducible refine And.intro (by omega) ?_)); (try simp only [go_sem, seval, reduceCtorEq, hc, lv28BdT, Try.ntmps28, Try.results28, MostS]))
      | fail)
  · have hlen := hv.v.len
    have h6 : ∀ b ∈ m, b.2 ≤ 6 := fun b hb => (hv.v.bls.rng b hb).2
    have hpk := p64 k hk
    have hne : ¬ ((2 ^ k : Nat) : Int) = 0 := by omega
    repeat' (first
      | (with_reducible first | refine W_seq ?_ | refine W_condT rfl ?_ | refine W_condF rfl ?_ | refine W_tf rfl (fun h => ?_) (fun h => ?_) | refine W_block ?_ | refine W_scope ?_ | refine endQ_ret ?_ | refine endQ_normal ?_)
      | ((with_reducible first | refine hK _ ?_ | refine hK _ _ ?_); clear hK K)
      | ((first | (with_reducible first | refine ops_cons (fun K hK => ?_) | refine opsd_cons (fun K hK => ?_) | refine ops_nil ?_ | refine fit_i64 (by omega) ?_ | refine fit_u8 (by omega) ?_ | refine fit_u64 (by omega) ?_ | refine fit_u32 (by omega) ?_ | refine fit_any ?_ | refine quo_nn (by omega) ?_ | refine rem_nn (by omega) ?_ | refine quo_any ?_ | refine rem_any ?_ | refine sh_in (by simp only [IntKind.bits]; omega) ?_) | ((with_reducible refine opsd_nil ?_); refine And.intro (by kernel_rfl) ?_) | with_reducible refine callV_snap ?_ | ((with_reducible refine call_go rasksVS rasksV_ok ?_); refine ⟨(by first | exact alOk_nil _ | exact alOk_f rfl), _, _, rasksV_at _ _ _ hv hk, ?_⟩) | (with_reducible first | refine slice_old ?_ | refine app_grow ?_ | refine idx_map (by omega) ?_ | refine W_reg lv28BdT ?_ | refine W_drw lv28BdT (by kernel_rfl) ?_ | refine W_label ?_ | refine W_skip ?_ | refine W_exit ?_ | refine W_ret ?_ | refine end_at0 ?_) | (with_reducible refine And.intro (fun h => ?_) (fun h => ?_)) | (with_reducible refine And.intro (by omega) ?_)); (try simp only [go_sem, seval, reduceCtorEq, lv28BdT, Try.ntmps28, Try.results28, MostS]))
      | fail)
    refine W_loop (fun i : Nat => ⟨[(1, iv k), (2, .ptr 0 0), (7, iv (mstTo m k i)), (8, iv i)], [some (.box 24 [iv N, dN m])]⟩) (fun i => i ≤ m.length) (fun i => m.length - i) 0 (Nat.zero_le _) [0] ?_ ?_
    · simp [go_sem, mstTo]
    intro i hi
    have ht := mstTo_le m k h6 i hi
    by_cases hlt : i < m.length
    · have hki : (i : Int) < m.length := by omega
      have r2 := h6 _ (List.getElem_mem hlt)
      have hp := p64 _ r2
      have hst := mstTo_step m k i hlt
      have hdv : ((2 ^ (m[i]).2 : Nat) : Int) / ((2 ^ k : Nat) : Int) = ((2 ^ (m[i]).2 / 2 ^ k : Nat) : Int) := (Int.natCast_ediv _ _).symm
      have hdl := Nat.div_le_self (2 ^ (m[i]).2) (2 ^ k)
      repeat' (first
        | (with_reducible first | refine W_seq ?_ | refine W_condT rfl ?_ | refine W_condF rfl ?_ | refine W_tf rfl (fun h => ?_) (fun h => ?_) | refine W_block ?_ | refine W_scope ?_ | refine endQ_ret ?_ | refine endQ_normal ?_)
        | ((with_reducible first | refine hK _ ?_ | refine hK _ _ ?_); clear hK K)
        | ((first | (with_reducible first | refine ops_cons (fun K hK => ?_) | refine opsd_cons (fun K hK => ?_) | refine ops_nil ?_ | refine fit_i64 (by omega) ?_ | refine fit_u8 (by omega) ?_ | refine fit_u64 (by omega) ?_ | refine fit_u32 (by omega) ?_ | refine fit_any ?_ | refine quo_nn (by omega) ?_ | refine rem_nn (by omega) ?_ | refine quo_any ?_ | refine rem_any ?_ | refine sh_in (by simp only [IntKind.bits]; omega) ?_) | ((with_reducible refine opsd_nil ?_); refine And.intro (by kernel_rfl) ?_) | with_reducible refine callV_snap ?_ | ((with_reducible refine call_go nsizeS nsize_ok ?_); refine ⟨(by first | exact alOk_nil _ | exact alOk_f rfl), _, _, nsize_at _ r2, ?_⟩) | ((with_reducible refine call_go nsizeS nsize_ok ?_); refine ⟨(by first | exact alOk_nil _ | exact alOk_f rfl), _, _, nsize_at _ hk, ?_⟩) | (with_reducible first | refine slice_old ?_ | refine app_grow ?_ | refine idx_map (by omega) ?_ | refine W_reg lv28BdT ?_ | refine W_drw lv28BdT (by kernel_rfl) ?_ | refine W_label ?_ | refine W_skip ?_ | refine W_exit ?_ | refine W_ret ?_ | refine end_at0 ?_) | (with_reducible refine And.intro (fun h => ?_) (fun h => ?_)) | (with_reducible refine And.intro (by omega) ?_)); (try simp only [go_sem, seval, reduceCtorEq, hki, encN, hdv, hne, lv28BdT, Try.ntmps28, Try.results28, MostS]))
        | fail)
      refine ⟨i + 1, [0], by omega, by omega, ?_⟩
      simp [go_sem, hst]
    · have hki : ¬ (i : Int) < m.length := by omega
      obtain rfl : i = m.length := by omega
      have e : mstTo m k m.length = mst m k := rfl
      repeat' (first
        | (with_reducible first | refine W_seq ?_ | refine W_condT rfl ?_ | refine W_condF rfl ?_ | refine W_tf rfl (fun h => ?_) (fun h => ?_) | refine W_block ?_ | refine W_scope ?_ | refine endQ_ret ?_ | refine endQ_normal ?_)
        | ((with_reducible first | refine hK _ ?_ | refine hK _ _ ?_); clear hK K)
        | ((first | (with_reducible first | refine ops_cons (fun K hK => ?_) | refine opsd_cons (fun K hK => ?_) | refine ops_nil ?_ | refine fit_i64 (by omega) ?_ | refine fit_u8 (by omega) ?_ | refine fit_u64 (by omega) ?_ | refine fit_u32 (by omega) ?_ | refine fit_any ?_ | refine quo_nn (by omega) ?_ | refine rem_nn (by omega) ?_ | refine quo_any ?_ | refine rem_any ?_ | refine sh_in (by simp only [IntKind.bits]; omega) ?_) | ((with_reducible refine opsd_nil ?_); refine And.intro (by kernel_rfl) ?_) | with_reducible refine callV_snap ?_ | (with_reducible first | refine slice_old ?_ | refine app_grow ?_ | refine idx_map (by omega) ?_ | refine W_reg lv28BdT ?_ | refine W_drw lv28BdT (by kernel_rfl) ?_ | refine W_label ?_ | refine W_skip ?_ | refine W_exit ?_ | refine W_ret ?_ | refine end_at0 ?_) | (with_reducible refine And.intro (fun h => ?_) (fun h => ?_)) | (with_reducible refine And.intro (by omega) ?_)); (try simp only [go_sem, seval, reduceCtorEq, hki, e, lv28BdT, Try.ntmps28, Try.results28, MostS]))
        | fail)

set_option maxHeartbeats 2000000 in
theorem rIs_ok : Ok Try.prog 30 IsS := by
  refine fn_ok IsS Try.func30 rfl rfl ?_
  rintro args ins res outs (⟨n, l, a, hl, hc, rfl, rfl, rfl, rfl⟩ | ⟨N, m, a, hv, ha, rfl, rfl, rfl, rfl⟩)
  all_goals refine ⟨by simp [Try.ntmps30], fun w0 V Bo mu0 => ?_⟩
  · by_cases h1 : (zchk n l).1 = 0
    · have h2 : a < 0 ∨ n ≤ a := by
        unfold isE at hc
        rw [if_neg (by simpa using h1)] at hc
        split at hc
        · assumption
        · exact absurd rfl hc
      have e : isE n l a = 2 := by unfold isE; rw [if_neg (by simpa using h1), if_pos h2]
      rw [e]
      by_cases h3 : a < 0
      · skip
        repeat' (first
          | (with_reducible first | refine W_seq ?_ | refine W_condT rfl ?_ | refine W_condF rfl ?_ | refine W_tf rfl (fun h => ?_) (fun h => ?_) | refine W_block ?_ | refine W_scope ?_ | refine endQ_ret ?_ | refine endQ_normal ?_)
          | ((with_reducible first | refine hK _ ?_ | refine hK _ _ ?_); clear hK K)
          | ((first | (with_reducible first | refine ops_cons (fun K hK => ?_) | refine opsd_cons (fun K hK => ?_) | refine ops_nil ?_ | refine fit_i64 (by omega) ?_ | refine fit_u8 (by omega) ?_ | refine fit_u64 (by omega) ?_ | refine fit_u32 (by omega) ?_ | refine fit_any ?_ | refine quo_nn (by omega) ?_ | refine rem_nn (by omega) ?_ | refine quo_any ?_ | refine rem_any ?_ | refine sh_in (by simp only [IntKind.bits]; omega) ?_) | ((with_reducible refine opsd_nil ?_); refine And.intro (by kernel_rfl) ?_) | with_reducible refine callV_snap ?_ | ((with_reducible refine call_go rCheckS rCheck_ok ?_); refine ⟨(by first | exact alOk_nil _ | exact alOk_f rfl), _, _, rCheck_at _ _ hl, ?_⟩) | (with_reducible first | refine slice_old ?_ | refine app_grow ?_ | refine idx_map (by omega) ?_ | refine W_reg lv30BdT ?_ | refine W_drw lv30BdT (by kernel_rfl) ?_ | refine W_label ?_ | refine W_skip ?_ | refine W_exit ?_ | refine W_ret ?_ | refine end_at0 ?_) | (with_reducible refine And.intro (fun h => ?_) (fun h => ?_)) | (with_reducible refine And.intro (by omega) ?_)); (try simp only [go_sem, seval, reduceCtorEq, h1, h3, lv30BdT, Try.ntmps30, Try.results30, IsS]))
          | fail)
      · have h4 : n ≤ a := by omega
        repeat' (first
          | (with_reducible first | refine W_seq ?_ | refine W_condT rfl ?_ | refine W_condF rfl ?_ | refine W_tf rfl (fun h => ?_) (fun h => ?_) | refine W_block ?_ | refine W_scope ?_ | refine endQ_ret ?_ | refine endQ_normal ?_)
          | ((with_reducible first | refine hK _ ?_ | refine hK _ _ ?_); clear hK K)
          | ((first | (with_reducible first | refine ops_cons (fun K hK => ?_) | refine opsd_cons (fun K hK => ?_) | refine ops_nil ?_ | refine fit_i64 (by omega) ?_ | refine fit_u8 (by omega) ?_ | refine fit_u64 (by omega) ?_ | refine fit_u32 (by omega) ?_ | refine fit_any ?_ | refine quo_nn (by omega) ?_ | refine rem_nn (by omega) ?_ | refine quo_any ?_ | refine rem_any ?_ | refine sh_in (by simp only [IntKind.bits]; omega) ?_) | ((with_reducible refine opsd_nil ?_); refine And.intro (by kernel_rfl) ?_) | with_reducible refine callV_snap ?_ | ((with_reducible refine call_go rCheckS rCheck_ok ?_); refine ⟨(by first | exact alOk_nil _ | exact alOk_f rfl), _, _, rCheck_at _ _ hl, ?_⟩) | (with_reducible first | refine slice_old ?_ | refine app_grow ?_ | refine idx_map (by omega) ?_ | refine W_reg lv30BdT ?_ | refine W_drw lv30BdT (by kernel_rfl) ?_ | refine W_label ?_ | refine W_skip ?_ | refine W_exit ?_ | refine W_ret ?_ | refine end_at0 ?_) | (with_reducible refine And.intro (fun h => ?_) (fun h => ?_)) | (with_reducible refine And.intro (by omega) ?_)); (try simp only [go_sem, seval, reduceCtorEq, h1, h3, h4, lv30BdT, Try.ntmps30, Try.results30, IsS]))
          | fail)
    · have e : isE n l a = (zchk n l).1 := by unfold isE; rw [if_pos h1]
      rw [e]
      repeat' (first
        | (with_reducible first | refine W_seq ?_ | refine W_condT rfl ?_ | refine W_condF rfl ?_ | refine W_tf rfl (fun h => ?_) (fun h => ?_) | refine W_block ?_ | refine W_scope ?_ | refine endQ_ret ?_ | refine endQ_normal ?_)
        | ((with_reducible first | refine hK _ ?_ | refine hK _ _ ?_); clear hK K)
        | ((first | (with_reducible first | refine ops_cons (fun K hK => ?_) | refine opsd_cons (fun K hK => ?_) | refine ops_nil ?_ | refine fit_i64 (by omega) ?_ | refine fit_u8 (by omega) ?_ | refine fit_u64 (by omega) ?_ | refine fit_u32 (by omega) ?_ | refine fit_any ?_ | refine quo_nn (by omega) ?_ | refine rem_nn (by omega) ?_ | refine quo_any ?_ | refine rem_any ?_ | refine sh_in (by simp only [IntKind.bits]; omega) ?_) | ((with_reducible refine opsd_nil ?_); refine And.intro (by kernel_rfl) ?_) | with_reducible refine callV_snap ?_ | ((with_reducible refine call_go rCheckS rCheck_ok ?_); refine ⟨(by first | exact alOk_nil _ | exact alOk_f rfl), _, _, rCheck_at _ _ hl, ?_⟩) | (with_reducible first | refine slice_old ?_ | refine app_grow ?_ | refine idx_map (by omega) ?_ | refine W_reg lv30BdT ?_ | refine W_drw lv30BdT (by kernel_rfl) ?_ | refine W_label ?_ | refine W_skip ?_ | refine W_exit ?_ | refine W_ret ?_ | refine end_at0 ?_) | (with_reducible refine And.intro (fun h => ?_) (fun h => ?_)) | (with_reducible refine And.intro (by omega) ?_)); (try simp only [go_sem, seval, reduceCtorEq, h1, lv30BdT, Try.ntmps30, Try.results30, IsS]))
        | fail)
  · have h1 : ¬ (a : Int) < 0 := by omega
    have h2 : ¬ (N : Int) ≤ a := by omega
    have hlb : a < (bl N (frM m)).length := by rw [bl_len]; exact ha
    have hai : (a : Int) < N := by omega
    have hb0 : encDB ((bl N (frM m))[a]) = [.bool (frM m a)] := by rw [bl_get]; rfl
    repeat' (first
      | (with_reducible first | refine W_seq ?_ | refine W_condT rfl ?_ | refine W_condF rfl ?_ | refine W_tf rfl (fun h => ?_) (fun h => ?_) | refine W_block ?_ | refine W_scope ?_ | refine endQ_ret ?_ | refine endQ_normal ?_)
      | ((with_reducible first | refine hK _ ?_ | refine hK _ _ ?_); clear hK K)
      | ((first | (with_reducible first | refine ops_cons (fun K hK => ?_) | refine opsd_cons (fun K hK => ?_) | refine ops_nil ?_ | refine fit_i64 (by omega) ?_ | refine fit_u8 (by omega) ?_ | refine fit_u64 (by omega) ?_ | refine fit_u32 (by omega) ?_ | refine fit_any ?_ | refine quo_nn (by omega) ?_ | refine rem_nn (by omega) ?_ | refine quo_any ?_ | refine rem_any ?_ | refine sh_in (by simp only [IntKind.bits]; omega) ?_) | ((with_reducible refine opsd_nil ?_); refine And.intro (by kernel_rfl) ?_) | with_reducible refine callV_snap ?_ | ((with_reducible refine call_go rCheckWS rCheckW_ok ?_); refine ⟨(by first | exact alOk_nil _ | exact alOk_f rfl), _, _, rCheckW_at _ _ hv, ?_⟩) | ((with_reducible refine call_go rframesS rframes_ok ?_); refine ⟨(by first | exact alOk_nil _ | exact alOk_f rfl), _, _, rframes_at _ _ hv.v, ?_⟩) | (with_reducible first | refine slice_old ?_ | refine app_grow ?_ | refine idx_map (by omega) ?_ | refine W_reg lv30BdT ?_ | refine W_drw lv30BdT (by kernel_rfl) ?_ | refine W_label ?_ | refine W_skip ?_ | refine W_exit ?_ | refine W_ret ?_ | refine end_at0 ?_) | (with_reducible refine And.intro (fun h => ?_) (fun h => ?_)) | (with_reducible refine And.intro (by omega) ?_)); (try simp only [go_sem, seval, reduceCtorEq, h1, h2, hai, hb0, lv30BdT, Try.ntmps30, Try.results30, IsS]))
      | fail)

/-! ### numbers of blocks by order -/
def il (f : Nat → Nat) : List Int := (List.range 7).map fun k => (f k : Int)
theorem il_len (f : Nat → Nat) : (il f).length = 7 := by simp [il]
theorem il_get {f : Nat → Nat} {i : Nat} (h : i < (il f).length) : (il f)[i] = f i := by simp [il]
def upN (f : Nat → Nat) (i b j : Nat) : Nat := if j = i then b else f j
theorem il_set {f : Nat → Nat} {i b : Nat} (h : i < 7) : (il f).set i (b : Int) = il (upN f i b) := by
  apply List.ext_getElem?
  intro j
  rw [List.getElem?_set]
  simp only [il, List.length_map, List.length_range, List.getElem?_map]
  by_cases hj : i = j
  · subst hj; simp [h, upN]
  · rw [if_neg hj]
    by_cases hN : j < 7
    · simp [hN, upN, Ne.symm hj]
    · simp [hN]
theorem il_congr {f g : Nat → Nat} (h : ∀ i, i < 7 → f i = g i) : il f = il g := by
  unfold il
  exact List.map_congr_left (fun i hi => by rw [h i (List.mem_range.1 hi)])
theorem encDI_len (b : Int) : (encDI b).length = 1 := rfl
def cntTo (m : List Bl) (i k : Nat) : Nat := (m.take i).countP (fun b => b.2 == k)
def cnt (m : List Bl) (k : Nat) : Nat := m.countP (fun b => b.2 == k)
theorem cntTo_step (m : List Bl) (i k : Nat) (h : i < m.length) : cntTo m (i + 1) k = if k = (m[i]).2 then cntTo m i k + 1 else cntTo m i k := by
  unfold cntTo
  rw [take_get m i h, List.countP_append]
  by_cases e : k = (m[i]).2
  · rw [if_pos e]; simp [List.countP_cons, e]
  · rw [if_neg e]; simp [List.countP_cons, Ne.symm e]
theorem shv_cnt (m : List Bl) (k : Nat) : (shv m k).length = cnt m k := by
  have key : ∀ (l : List Bl) (L : Shf), ((l.foldl put L) k).length = (L k).length + l.countP (fun b => b.2 == k) := by
    intro l
    induction l with
    | nil => intro L; simp
    | cons b l ih =>
      intro L
      rw [List.foldl_cons, ih, List.countP_cons]
      unfold put upd
      by_cases e : k = b.2
      · rw [if_pos e, insS_len, ← e]; simp; omega
      · rw [if_neg e]; simp [Ne.symm e]
  have := key m (fun _ => [])
  simpa [shv, cnt] using this
def CountsS : Spec := { rel := fun args ins res outs => (∃ (n : Int) (l : List Bi), l.length ≤ 1000000 ∧ (zchk n l).1 ≠ 0 ∧ args = [zv n l] ∧ ins = [] ∧ res = .tup [.nil, iv (zchk n l).1] ∧ outs = []) ∨
  ∃ (N : Nat) (m : List Bl), Vz N m ∧ args = [.agg [iv N, dN m]] ∧ ins = [] ∧ res = .tup [.row 0 1 0 7, iv 0] ∧ outs = [.rows 3 1 ((il (cnt m)).map encDI)] }
set_option maxHeartbeats 4000000 in
theorem rCounts_ok : Ok Try.prog 25 CountsS := by
  refine fn_ok CountsS Try.func25 rfl rfl ?_
  rintro args ins res outs (⟨n, l, hl, hc, rfl, rfl, rfl, rfl⟩ | ⟨N, m, hv, rfl, rfl, rfl, rfl⟩)
  all_goals refine ⟨by simp [Try.ntmps25], fun w0 V Bo mu0 => ?_⟩
  · skip
    repeat' (first
      | (with_reducible first | refine W_seq ?_ | refine W_condT rfl ?_ | refine W_condF rfl ?_ | refine W_tf rfl (fun h => ?_) (fun h => ?_) | refine W_block ?_ | refine W_scope ?_ | refine endQ_ret ?_ | refine endQ_normal ?_)
      | ((with_reducible first | refine hK _ ?_ | refine hK _ _ ?_); clear hK K)
      | ((first | (with_reducible first | refine ops_cons (fun K hK => ?_) | refine opsd_cons (fun K hK => ?_) | refine ops_nil ?_ | refine fit_i64 (by omega) ?_ | refine fit_u8 (by omega) ?_ | refine fit_u64 (by omega) ?_ | refine fit_u32 (by omega) ?_ | refine fit_any ?_ | refine quo_nn (by omega) ?_ | refine rem_nn (by omega) ?_ | refine quo_any ?_ | refine rem_any ?_ | refine sh_in (by simp only [IntKind.bits]; omega) ?_) | ((with_reducible refine opsd_nil ?_); refine And.intro (by kernel_rfl) ?_) | with_reducible refine callV_snap ?_ | ((with_reducible refine call_go rCheckS rCheck_ok ?_); refine ⟨(by first | exact alOk_nil _ | exact alOk_f rfl), _, _, rCheck_at _ _ hl, ?_⟩) | (with_reducible first | refine slice_old ?_ | refine app_grow ?_ | refine idx_map (by omega) ?_ | refine W_reg lv25BdT ?_ | refine W_drw lv25BdT (by kernel_rfl) ?_ | refine W_label ?_ | refine W_skip ?_ | refine W_exit ?_ | refine W_ret ?_ | refine end_at0 ?_) | (with_reducible refine And.intro (fun h => ?_) (fun h => ?_)) | (with_reducible refine And.intro (by omega) ?_)); (try simp only [go_sem, seval, reduceCtorEq, hc, lv25BdT, Try.ntmps25, Try.results25, CountsS]))
      | fail)
  · have hlen := hv.v.len
    have h6 : ∀ b ∈ m, b.2 ≤ 6 := fun b hb => (hv.v.bls.rng b hb).2
    have hc7 : ((7 : Nat) : Int) = 7 := rfl
    repeat' (first
      | (with_reducible first | refine W_seq ?_ | refine W_condT rfl ?_ | refine W_condF rfl ?_ | refine W_tf rfl (fun h => ?_) (fun h => ?_) | refine W_block ?_ | refine W_scope ?_ | refine endQ_ret ?_ | refine endQ_normal ?_)
      | ((with_reducible first | refine hK _ ?_ | refine hK _ _ ?_); clear hK K)
      | ((first | (with_reducible first | refine ops_cons (fun K hK => ?_) | refine opsd_cons (fun K hK => ?_) | refine ops_nil ?_ | refine fit_i64 (by omega) ?_ | refine fit_u8 (by omega) ?_ | refine fit_u64 (by omega) ?_ | refine fit_u32 (by omega) ?_ | refine fit_any ?_ | refine quo_nn (by omega) ?_ | refine rem_nn (by omega) ?_ | refine quo_any ?_ | refine rem_any ?_ | refine sh_in (by simp only [IntKind.bits]; omega) ?_) | ((with_reducible refine opsd_nil ?_); refine And.intro (by kernel_rfl) ?_) | with_reducible refine callV_snap ?_ | ((with_reducible refine call_go rCheckWS rCheckW_ok ?_); refine ⟨(by first | exact alOk_nil _ | exact alOk_f rfl), _, _, rCheckW_at _ _ hv, ?_⟩) | (with_reducible first | refine slice_old ?_ | refine app_grow ?_ | refine idx_map (by omega) ?_ | refine W_reg lv25BdT ?_ | refine W_drw lv25BdT (by kernel_rfl) ?_ | refine W_label ?_ | refine W_skip ?_ | refine W_exit ?_ | refine W_ret ?_ | refine end_at0 ?_) | (with_reducible refine And.intro (fun h => ?_) (fun h => ?_)) | (with_reducible refine And.intro (by omega) ?_)); (try simp only [go_sem, seval, reduceCtorEq, lv25BdT, Try.ntmps25, Try.results25, CountsS]))
      | fail)
    refine W_loop (fun i : Nat => ⟨[(1, .ptr 0 0), (6, .row 1 1 0 7), (7, iv i)], [some (.box 24 [iv N, dN m]), some (.rows 3 1 ((il (cntTo m i)).map encDI))]⟩) (fun i => i ≤ m.length) (fun i => m.length - i) 0 (Nat.zero_le _) [0, 1] ?_ ?_
    · simp [go_sem]
      rfl
    intro i hi
    by_cases hlt : i < m.length
    · have hki : (i : Int) < m.length := by omega
      have r2 := h6 _ (List.getElem_mem hlt)
      have hlb : (m[i]).2 < (il (cntTo m i)).length := by rw [il_len]; omega
      have h7 : ((m[i]).2 : Int) < 7 := by omega
      have hcb : cntTo m i (m[i]).2 ≤ 256 := by
        unfold cntTo
        have := List.countP_le_length (l := m.take i) (p := fun b => b.2 == (m[i]).2)
        simp at this; omega
      have hb0 : encDI ((il (cntTo m i))[(m[i]).2]) = [.int .i64 (cntTo m i (m[i]).2 : Int)] := by rw [il_get]; rfl
      have hadd : (cntTo m i (m[i]).2 : Int) + 1 = ((cntTo m i (m[i]).2 + 1 : Nat) : Int) := by omega
      have hset : ((il (cntTo m i)).map encDI).set (m[i]).2 [.int .i64 ((cntTo m i (m[i]).2 + 1 : Nat) : Int)] = (il (cntTo m (i + 1))).map encDI := by
        have e : il (cntTo m (i + 1)) = il (upN (cntTo m i) (m[i]).2 (cntTo m i (m[i]).2 + 1)) := il_congr (fun k _ => by
          rw [cntTo_step m i k hlt]; unfold upN
          by_cases e : k = (m[i]).2
          · rw [if_pos e, if_pos e, e]
          · rw [if_neg e, if_neg e])
        rw [e, ← il_set (by omega), List.map_set]; rfl
      repeat' (first
        | (with_reducible first | refine W_seq ?_ | refine W_condT rfl ?_ | refine W_condF rfl ?_ | refine W_tf rfl (fun h => ?_) (fun h => ?_) | refine W_block ?_ | refine W_scope ?_ | refine endQ_ret ?_ | refine endQ_normal ?_)
        | ((with_reducible first | refine hK _ ?_ | refine hK _ _ ?_); clear hK K)
        | ((with_reducible refine idx_map2 hlb ?_); simp only [go_sem, seval, reduceCtorEq, encDI_len, hb0, hset])
        | ((first | (with_reducible first | refine ops_cons (fun K hK => ?_) | refine opsd_cons (fun K hK => ?_) | refine ops_nil ?_ | refine fit_i64 (by omega) ?_ | refine fit_u8 (by omega) ?_ | refine fit_u64 (by omega) ?_ | refine fit_u32 (by omega) ?_ | refine fit_any ?_ | refine quo_nn (by omega) ?_ | refine rem_nn (by omega) ?_ | refine quo_any ?_ | refine rem_any ?_ | refine sh_in (by simp only [IntKind.bits]; omega) ?_) | ((with_reducible refine opsd_nil ?_); refine And.intro (by kernel_rfl) ?_) | with_reducible refine callV_snap ?_ | (with_reducible first | refine slice_old ?_ | refine app_grow ?_ | refine idx_map (by omega) ?_ | refine W_reg lv25BdT ?_ | refine W_drw lv25BdT (by kernel_rfl) ?_ | refine W_label ?_ | refine W_skip ?_ | refine W_exit ?_ | refine W_ret ?_ | refine end_at0 ?_) | (with_reducible refine And.intro (fun h => ?_) (fun h => ?_)) | (with_reducible refine And.intro (by omega) ?_)); (try simp only [go_sem, seval, reduceCtorEq, hki, encN, h7, hc7, hb0, hadd, hset, lv25BdT, Try.ntmps25, Try.results25, CountsS]))
        | fail)
      refine ⟨i + 1, [0, 1], by omega, by omega, ?_⟩
      simp [go_sem]
      first | exact hset | skip
    · have hki : ¬ (i : Int) < m.length := by omega
      obtain rfl : i = m.length := by omega
      have e : il (cntTo m m.length) = il (cnt m) := il_congr (fun k _ => by unfold cntTo cnt; rw [List.take_length])
      rw [e]
      have hfl := encI.flat (il (cnt m))
      repeat' (first
        | (with_reducible first | refine W_seq ?_ | refine W_condT rfl ?_ | refine W_condF rfl ?_ | refine W_tf rfl (fun h => ?_) (fun h => ?_) | refine W_block ?_ | refine W_scope ?_ | refine endQ_ret ?_ | refine endQ_normal ?_)
        | ((with_reducible first | refine hK _ ?_ | refine hK _ _ ?_); clear hK K)
        | ((first | (with_reducible first | refine ops_cons (fun K hK => ?_) | refine opsd_cons (fun K hK => ?_) | refine ops_nil ?_ | refine fit_i64 (by omega) ?_ | refine fit_u8 (by omega) ?_ | refine fit_u64 (by omega) ?_ | refine fit_u32 (by omega) ?_ | refine fit_any ?_ | refine quo_nn (by omega) ?_ | refine rem_nn (by omega) ?_ | refine quo_any ?_ | refine rem_any ?_ | refine sh_in (by simp only [IntKind.bits]; omega) ?_) | ((with_reducible refine opsd_nil ?_); refine And.intro (by kernel_rfl) ?_) | with_reducible refine callV_snap ?_ | (with_reducible first | refine slice_old ?_ | refine app_grow ?_ | refine idx_map (by omega) ?_ | refine W_reg lv25BdT ?_ | refine W_drw lv25BdT (by kernel_rfl) ?_ | refine W_label ?_ | refine W_skip ?_ | refine W_exit ?_ | refine end_at0 ?_) | (with_reducible refine And.intro (fun h => ?_) (fun h => ?_)) | (with_reducible refine And.intro (by omega) ?_)); (try simp only [go_sem, seval, reduceCtorEq, hki, lv25BdT, Try.ntmps25, Try.results25, CountsS]))
        | fail)
      refine W_ret (endQ_ret (end_at [1] ?_))
      simp [go_sem, Try.results25, CountsS]
      simp [flatD, encDI]
end Go.Proofs.Ytniiaaagammebaa
