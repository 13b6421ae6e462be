/- BuddyGives, by the engine. -/
import Derived.Test.YtniiaaagammebaaBdAI
namespace Go.Proofs.Ytniiaaagammebaa
open Go.RowKit
set_option maxRecDepth 100000
set_option linter.unusedSimpArgs false
set_option linter.unusedVariables false

abbrev lv8BdAJ : List (Nat × List Nat) := [(0, [0, 1]), (1, [0, 1, 5]), (2, [0, 5, 6, 7, 8]), (3, [5, 6, 7, 35]), (4, [4]), (5, [5, 6, 7, 9]), (6, [5, 6, 7, 9, 10]), (7, [5, 6, 7, 9, 10, 11]), (8, [5, 6, 7, 9, 10, 11, 42]), (9, [5, 6, 7, 9, 10, 11]), (10, [5, 6, 7, 9, 10, 11, 12]), (11, [5, 6, 7, 9, 10, 11, 12, 79]), (12, [4]), (13, [5, 6, 7, 9, 10, 11, 12, 13]), (14, [5, 6, 7, 9, 10, 11, 12, 13, 93]), (15, [5, 6, 7, 9, 10, 11, 12, 13]), (16, [5, 6, 7, 9, 10, 11, 12, 13, 99]), (17, [4]), (18, [5, 6, 7, 9, 10, 11, 12, 13]), (19, [5, 6, 7, 9, 10, 11]), (20, [5, 6, 9, 10, 14, 15]), (21, [5, 6, 9, 10, 14, 15, 16]), (22, [5, 6, 9, 10, 14, 15, 16, 114]), (23, [5, 6, 9, 10, 14, 15, 16]), (24, [5, 6, 9, 10, 14, 15, 16, 17, 18]), (25, [5, 6, 9, 10, 14, 15, 16, 132]), (26, [4]), (27, [4])]
theorem Gv.fr' {N : Nat} {m out : List Bl} (h : Gv N m out) {j : Nat} (hj : j < N) : frM m j = !frM out j := h.fr j hj
theorem Gv.apt {N : Nat} {m out : List Bl} (h : Gv N m out) {i : Nat} (hi : i < out.length) {j : Nat} (h1 : inb out[i].1 out[i].2 j = true) : frM (out.take i) j = false := by
  rw [← Bool.not_eq_true]
  intro hf
  obtain ⟨b, hb, h2⟩ := frM_iff.1 hf
  have e : out = out.take i ++ out[i] :: out.drop (i + 1) := by
    rw [← List.drop_eq_getElem_cons hi, List.take_append_drop]
  have hg : Gv N m (out.take i ++ out[i] :: out.drop (i + 1)) := e ▸ h
  have := hg.apart (List.mem_append_left _ hb)
  obtain ⟨a1, a2⟩ := inb_iff.1 h1
  obtain ⟨a3, a4⟩ := h2
  dsimp only at a1 a2 a3 a4
  omega
def gvsS : Spec := { rel := fun args ins res outs => ∃ (n : Int) (nums : List Int), args = [iv n, dI nums] ∧ ins = [] ∧ res = bv true ∧ outs = [] }
set_option maxHeartbeats 8000000 in
theorem gvs_ok : Ok Try.prog 8 gvsS := by
  refine fn_ok gvsS Try.func8 rfl rfl ?_
  rintro args ins res outs ⟨n, nums, rfl, rfl, rfl, rfl⟩
  refine ⟨by simp [Try.ntmps8], fun w0 V Bo mu0 => ?_⟩
  obtain ⟨N, hN⟩ : ∃ N : Nat, n % 257 = N := ⟨(n % 257).toNat, by omega⟩
  have hN6 : N ≤ 256 := by omega
  obtain ⟨hG, hl⟩ := scr_gv hN6 nums
  have script_at : scriptS.rel [iv n, dI nums] [] (.tup [.agg [iv N, dN (scr N nums).1], .row 0 2 0 (scr N nums).2.length, bv true]) [.rows 50 2 ((scr N nums).2.map encN)] := ⟨n, nums, N, hN, rfl, rfl, rfl, rfl⟩
  generalize (scr N nums).1 = m at *
  generalize (scr N nums).2 = out at *
  have hz := bl_zero N
  have hsum := hG.sum
  have htot : tot m ≤ 256 := by omega
  repeat' (first
    | (with_reducible first | refine W_seq ?_ | refine W_condT rfl ?_ | refine W_condF rfl ?_ | refine W_tf rfl (fun h => ?_) (fun h => ?_) | refine W_block ?_ | refine W_scope ?_ | refine endQ_ret ?_ | refine endQ_normal ?_)
    | ((with_reducible first | refine hK _ ?_ | refine hK _ _ ?_); clear hK K)
    | ((first | (with_reducible first | refine ops_cons (fun K hK => ?_) | refine opsd_cons (fun K hK => ?_) | refine ops_nil ?_ | refine fit_i64 (by omega) ?_ | refine fit_u8 (by omega) ?_ | refine fit_u64 (by omega) ?_ | refine fit_u32 (by omega) ?_ | refine fit_any ?_ | refine quo_nn (by omega) ?_ | refine rem_nn (by omega) ?_ | refine quo_any ?_ | refine rem_any ?_ | refine sh_in (by simp only [IntKind.bits]; omega) ?_) | ((with_reducible refine opsd_nil ?_); refine And.intro (by kernel_rfl) ?_) | with_reducible refine callV_snap ?_ | ((with_reducible refine call_go knwS knw_ok ?_); refine ⟨(by first | exact alOk_nil _ | exact alOk_f rfl), _, _, knw_at , ?_⟩) | ((with_reducible refine call_go scriptS script_ok ?_); refine ⟨(by first | exact alOk_nil _ | exact alOk_f rfl), _, _, script_at , ?_⟩) | ((with_reducible refine call_go ModS Mod_ok ?_); refine ⟨(by first | exact alOk_nil _ | exact alOk_f rfl), _, _, Mod_at n 257 (by omega) (by omega), ?_⟩) | (with_reducible first | refine slice_old ?_ | refine app_grow ?_ | refine idx_map (by omega) ?_ | refine W_reg lv8BdAJ ?_ | refine W_drw lv8BdAJ (by kernel_rfl) ?_ | refine W_label ?_ | refine W_skip ?_ | refine W_exit ?_ | refine W_ret ?_ | refine end_at0 ?_) | (with_reducible refine And.intro (fun h => ?_) (fun h => ?_)) | (with_reducible refine And.intro (by omega) ?_)); (try simp only [go_sem, seval, reduceCtorEq, hN, lv8BdAJ, Try.ntmps8, Try.results8, gvsS]))
    | fail)
  refine W_loop (fun x : Nat × (Nat → Bool) => ⟨[(5, bv true), (6, .ptr 1 0), (7, .row 0 2 0 out.length), (9, .row 2 1 0 N), (10, iv (totTo out x.1)), (11, iv x.1)], [some (.rows 50 2 (out.map encN)), some (.box 24 [iv N, dN m]), some (.rows 4 1 ((bl N x.2).map encDB))]⟩) (fun x => x.1 ≤ out.length ∧ ∀ j, j < N → x.2 j = frM (out.take x.1) j) (fun x => out.length - x.1) (0, fun _ => false) ⟨Nat.zero_le _, fun j _ => by simp [frM]⟩ [0, 1, 2] ?_ ?_
  · simp [go_sem, totTo]
    exact hz
  rintro ⟨i, f⟩ ⟨hi, hf⟩
  dsimp only at hi hf
  have ub := Try.underlying4
  by_cases hlt : i < out.length
  · have hki : (i : Int) < out.length := by omega
    obtain ⟨o1, o2, o3⟩ := hG.ok _ (List.getElem_mem hlt)
    have o4 := hG.le _ (List.getElem_mem hlt)
    have hst := totTo_step out i hlt
    have htt := totTo_le out (fun b hb => (hG.ok b hb).1) i hi
    have hdj := fun j (h : inb out[i].1 out[i].2 j = true) => hG.apt hlt h
    have hft := fun j => frM_take out i j hlt
    have e0 : encN out[i] = [.int .i64 (out[i].1 : Int), .int .i64 (out[i].2 : Int)] := rfl
    have hpw : (2 : Int) ^ out[i].2 = ((2 ^ out[i].2 : Nat) : Int) := pow_nat _
    have hp := p64 _ o1
    have hin : ∀ j, inb out[i].1 out[i].2 j = (decide (out[i].1 ≤ j) && decide (j < out[i].1 + 2 ^ out[i].2)) := fun j => rfl
    generalize 2 ^ out[i].2 = s at *
    generalize out[i].2 = o at *
    generalize out[i].1 = a at *
    have hal : (a : Int) % (s : Int) = 0 := by exact_mod_cast o3
    have h0 : ¬ ((a : Int) < 0) := by omega
    have hN3 : ¬ ((N : Int) < (a : Int) + (s : Int)) := by omega
    have hsum2 : ((totTo out i : Nat) : Int) + (s : Int) = ((totTo out (i + 1) : Nat) : Int) := by omega
    repeat' (first
      | (with_reducible first | refine W_seq ?_ | refine W_condT rfl ?_ | refine W_condF rfl ?_ | refine W_tf rfl (fun h => ?_) (fun h => ?_) | refine W_block ?_ | refine W_scope ?_ | refine endQ_ret ?_ | refine endQ_normal ?_)
      | ((with_reducible first | refine hK _ ?_ | refine hK _ _ ?_); clear hK K)
      | ((first | (with_reducible first | refine ops_cons (fun K hK => ?_) | refine opsd_cons (fun K hK => ?_) | refine ops_nil ?_ | refine fit_i64 (by omega) ?_ | refine fit_u8 (by omega) ?_ | refine fit_u64 (by omega) ?_ | refine fit_u32 (by omega) ?_ | refine fit_any ?_ | refine quo_nn (by omega) ?_ | refine rem_nn (by omega) ?_ | refine quo_any ?_ | refine rem_any ?_ | refine sh_in (by simp only [IntKind.bits]; omega) ?_) | ((with_reducible refine opsd_nil ?_); refine And.intro (by kernel_rfl) ?_) | with_reducible refine callV_snap ?_ | (with_reducible first | refine slice_old ?_ | refine app_grow ?_ | refine idx_map (by omega) ?_ | refine W_reg lv8BdAJ ?_ | refine W_drw lv8BdAJ (by kernel_rfl) ?_ | refine W_label ?_ | refine W_skip ?_ | refine W_exit ?_ | refine W_ret ?_ | refine end_at0 ?_) | (with_reducible refine And.intro (fun h => ?_) (fun h => ?_)) | (with_reducible refine And.intro (by omega) ?_)); (try simp only [go_sem, seval, reduceCtorEq, hki, e0, Int.toNat_natCast, Int.one_mul, hpw, hal, h0, hN3, lv8BdAJ, Try.ntmps8, Try.results8, gvsS]))
      | fail)
    refine W_loop (fun x : Nat × (Nat → Bool) => ⟨[(5, bv true), (6, .ptr 1 0), (7, .row 0 2 0 out.length), (9, .row 2 1 0 N), (10, iv (totTo out i)), (11, iv i), (12, iv s), (13, iv ((a + x.1 : Nat) : Int))], [some (.rows 50 2 (out.map encN)), some (.box 24 [iv N, dN m]), some (.rows 4 1 ((bl N x.2).map encDB))]⟩) (fun x => x.1 ≤ s ∧ ∀ j, j < N → x.2 j = (frM (out.take i) j || (decide (a ≤ j) && decide (j < a + x.1)))) (fun x => s - x.1) (0, f) ⟨Nat.zero_le _, fun j hj => by dsimp only; rw [hf j hj]; simp; omega⟩ [0, 1, 2] ?_ ?_
    · simp [go_sem]
    rintro ⟨k, g⟩ ⟨hk, hg⟩
    dsimp only at hk hg
    by_cases hkl : k < s
    · have hkk : ((a + k : Nat) : Int) < (a : Int) + (s : Int) := by omega
      have hlN : a + k < N := by omega
      have hlN' : ((a + k : Nat) : Int) < N := by omega
      have hlb : a + k < (bl N g).length := by rw [bl_len]; exact hlN
      have hgf : g (a + k) = false := by
        rw [hg _ hlN, hdj (a + k) (by rw [hin]; simp; omega)]; simp
      have hge : encDB (bl N g)[a + k] = [.bool false] := by rw [bl_get, hgf]; rfl
      have hset : ((bl N g).map encDB).set (a + k) [.bool true] = (bl N (upF g (a + k) true)).map encDB := by rw [← bl_set hlN, List.map_set]; rfl
      have hnx : ((a + k : Nat) : Int) + 1 = ((a + (k + 1) : Nat) : Int) := by omega
      repeat' (first
        | (with_reducible first | refine W_seq ?_ | refine W_condT rfl ?_ | refine W_condF rfl ?_ | refine W_tf rfl (fun h => ?_) (fun h => ?_) | refine W_block ?_ | refine W_scope ?_ | refine endQ_ret ?_ | refine endQ_normal ?_)
        | ((with_reducible first | refine hK _ ?_ | refine hK _ _ ?_); clear hK K)
        | ((with_reducible refine idx_map2 hlb ?_); simp only [go_sem, seval, reduceCtorEq, encDB_len, hge, hset])
        | ((first | (with_reducible first | refine ops_cons (fun K hK => ?_) | refine opsd_cons (fun K hK => ?_) | refine ops_nil ?_ | refine fit_i64 (by omega) ?_ | refine fit_u8 (by omega) ?_ | refine fit_u64 (by omega) ?_ | refine fit_u32 (by omega) ?_ | refine fit_any ?_ | refine quo_nn (by omega) ?_ | refine rem_nn (by omega) ?_ | refine quo_any ?_ | refine rem_any ?_ | refine sh_in (by simp only [IntKind.bits]; omega) ?_) | ((with_reducible refine opsd_nil ?_); refine And.intro (by kernel_rfl) ?_) | with_reducible refine callV_snap ?_ | (with_reducible first | refine slice_old ?_ | refine app_grow ?_ | refine idx_map (by omega) ?_ | refine W_reg lv8BdAJ ?_ | refine W_drw lv8BdAJ (by kernel_rfl) ?_ | refine W_label ?_ | refine W_skip ?_ | refine W_exit ?_ | refine W_ret ?_ | refine end_at0 ?_) | (with_reducible refine And.intro (fun h => ?_) (fun h => ?_)) | (with_reducible refine And.intro (by omega) ?_)); (try simp only [go_sem, seval, reduceCtorEq, hki, e0, hkk, hlN', hge, hset, hnx, lv8BdAJ, Try.ntmps8, Try.results8, gvsS]))
        | fail)
      refine ⟨(k + 1, upF g (a + k) true), [0, 1, 2], ⟨hkl, fun j hj => ?_⟩, by dsimp only; omega, ?_⟩
      · unfold upF
        dsimp only
        by_cases e : j = a + k
        · rw [if_pos e, decide_eq_true (show a ≤ j by omega), decide_eq_true (show j < a + (k + 1) by omega)]; simp
        · rw [if_neg e, hg j hj]
          have : decide (j < a + k) = decide (j < a + (k + 1)) ∨ ¬ a ≤ j := by
            by_cases h : a ≤ j
            · left; rw [Bool.eq_iff_iff]; simp only [decide_eq_true_eq]; omega
            · exact .inr h
          rcases this with h | h
          · rw [h]
          · rw [decide_eq_false h]; simp
      · simp [go_sem]
    · have hkk : ¬ ((a + k : Nat) : Int) < (a : Int) + (s : Int) := by omega
      obtain rfl : k = s := by omega
      repeat' (first
        | (with_reducible first | refine W_seq ?_ | refine W_condT rfl ?_ | refine W_condF rfl ?_ | refine W_tf rfl (fun h => ?_) (fun h => ?_) | refine W_block ?_ | refine W_scope ?_ | refine endQ_ret ?_ | refine endQ_normal ?_)
        | ((with_reducible first | refine hK _ ?_ | refine hK _ _ ?_); clear hK K)
        | ((first | (with_reducible first | refine ops_cons (fun K hK => ?_) | refine opsd_cons (fun K hK => ?_) | refine ops_nil ?_ | refine fit_i64 (by omega) ?_ | refine fit_u8 (by omega) ?_ | refine fit_u64 (by omega) ?_ | refine fit_u32 (by omega) ?_ | refine fit_any ?_ | refine quo_nn (by omega) ?_ | refine rem_nn (by omega) ?_ | refine quo_any ?_ | refine rem_any ?_ | refine sh_in (by simp only [IntKind.bits]; omega) ?_) | ((with_reducible refine opsd_nil ?_); refine And.intro (by kernel_rfl) ?_) | with_reducible refine callV_snap ?_ | (with_reducible first | refine slice_old ?_ | refine app_grow ?_ | refine idx_map (by omega) ?_ | refine W_reg lv8BdAJ ?_ | refine W_drw lv8BdAJ (by kernel_rfl) ?_ | refine W_label ?_ | refine W_skip ?_ | refine W_exit ?_ | refine W_ret ?_ | refine end_at0 ?_) | (with_reducible refine And.intro (fun h => ?_) (fun h => ?_)) | (with_reducible refine And.intro (by omega) ?_)); (try simp only [go_sem, seval, reduceCtorEq, hki, e0, hkk, hsum2, lv8BdAJ, Try.ntmps8, Try.results8, gvsS]))
        | fail)
      refine ⟨(i + 1, g), [0, 1, 2], ⟨hlt, fun j hj => ?_⟩, by dsimp only; omega, ?_⟩
      · dsimp only; rw [hft j, hin]; exact hg j hj
      · simp [go_sem]
  · have hki : ¬ (i : Int) < out.length := by omega
    obtain rfl : i = out.length := by omega
    have hto : totTo out out.length = (out.map fun b => 2 ^ b.2).sum := by unfold totTo; rw [List.take_length]
    have Ttl_at : TtlS.rel [.agg [iv N, dN m]] [] (.tup [iv (tot m), iv 0]) [] := Tot_at N m hG.z
    have hf' : ∀ j, j < N → f j = frM out j := fun j hj => by rw [hf j hj, List.take_length]
    have hend : ((tot m : Nat) : Int) + ((totTo out out.length : Nat) : Int) = (N : Int) := by rw [hto]; omega
    have hno : ¬ (N : Int) < 0 := by omega
    repeat' (first
      | (with_reducible first | refine W_seq ?_ | refine W_condT rfl ?_ | refine W_condF rfl ?_ | refine W_tf rfl (fun h => ?_) (fun h => ?_) | refine W_block ?_ | refine W_scope ?_ | refine endQ_ret ?_ | refine endQ_normal ?_)
      | ((with_reducible first | refine hK _ ?_ | refine hK _ _ ?_); clear hK K)
      | ((first | (with_reducible first | refine ops_cons (fun K hK => ?_) | refine opsd_cons (fun K hK => ?_) | refine ops_nil ?_ | refine fit_i64 (by omega) ?_ | refine fit_u8 (by omega) ?_ | refine fit_u64 (by omega) ?_ | refine fit_u32 (by omega) ?_ | refine fit_any ?_ | refine quo_nn (by omega) ?_ | refine rem_nn (by omega) ?_ | refine quo_any ?_ | refine rem_any ?_ | refine sh_in (by simp only [IntKind.bits]; omega) ?_) | ((with_reducible refine opsd_nil ?_); refine And.intro (by kernel_rfl) ?_) | with_reducible refine callV_snap ?_ | ((with_reducible refine call_go TtlS Ttl_ok ?_); refine ⟨(by first | exact alOk_nil _ | exact alOk_f rfl), _, _, Ttl_at , ?_⟩) | (with_reducible first | refine slice_old ?_ | refine app_grow ?_ | refine idx_map (by omega) ?_ | refine W_reg lv8BdAJ ?_ | refine W_drw lv8BdAJ (by kernel_rfl) ?_ | refine W_label ?_ | refine W_skip ?_ | refine W_exit ?_ | refine W_ret ?_ | refine end_at0 ?_) | (with_reducible refine And.intro (fun h => ?_) (fun h => ?_)) | (with_reducible refine And.intro (by omega) ?_)); (try simp only [go_sem, seval, reduceCtorEq, hki, lv8BdAJ, Try.ntmps8, Try.results8, gvsS]))
      | fail)
    refine W_loop (fun k : Nat => ⟨[(5, bv true), (6, .ptr 0 0), (9, .row 1 1 0 N), (10, iv (totTo out out.length)), (14, iv (tot m)), (15, iv 0), (16, iv k)], [some (.box 24 [iv N, dN m]), some (.rows 4 1 ((bl N f).map encDB))]⟩) (fun k => k ≤ N) (fun k => N - k) 0 (Nat.zero_le _) [1, 2] ?_ ?_
    · simp [go_sem]
    intro k hk
    by_cases hkl : k < N
    · have hkk : (k : Int) < N := by omega
      have hlb : k < (bl N f).length := by rw [bl_len]; exact hkl
      have hge : encDB (bl N f)[k] = [.bool (frM out k)] := by rw [bl_get, hf' k hkl]; rfl
      have Isz_at : IszS.rel [.agg [iv N, dN m], iv k] [] (.tup [bv (!frM out k), iv 0]) [] := by
        have := Is_at N m k hG.z hkl
        rwa [hG.fr' hkl] at this
      have hx : ((!frM out k) == frM out k) = false := by cases frM out k <;> rfl
      repeat' (first
        | (with_reducible first | refine W_seq ?_ | refine W_condT rfl ?_ | refine W_condF rfl ?_ | refine W_tf rfl (fun h => ?_) (fun h => ?_) | refine W_block ?_ | refine W_scope ?_ | refine endQ_ret ?_ | refine endQ_normal ?_)
        | ((with_reducible first | refine hK _ ?_ | refine hK _ _ ?_); clear hK K)
        | ((with_reducible refine idx_map2 hlb ?_); simp only [go_sem, seval, reduceCtorEq, encDB_len, hge])
        | ((first | (with_reducible first | refine ops_cons (fun K hK => ?_) | refine opsd_cons (fun K hK => ?_) | refine ops_nil ?_ | refine fit_i64 (by omega) ?_ | refine fit_u8 (by omega) ?_ | refine fit_u64 (by omega) ?_ | refine fit_u32 (by omega) ?_ | refine fit_any ?_ | refine quo_nn (by omega) ?_ | refine rem_nn (by omega) ?_ | refine quo_any ?_ | refine rem_any ?_ | refine sh_in (by simp only [IntKind.bits]; omega) ?_) | ((with_reducible refine opsd_nil ?_); refine And.intro (by kernel_rfl) ?_) | with_reducible refine callV_snap ?_ | ((with_reducible refine call_go IszS Isz_ok ?_); refine ⟨(by first | exact alOk_nil _ | exact alOk_f rfl), _, _, Isz_at , ?_⟩) | (with_reducible first | refine slice_old ?_ | refine app_grow ?_ | refine idx_map (by omega) ?_ | refine W_reg lv8BdAJ ?_ | refine W_drw lv8BdAJ (by kernel_rfl) ?_ | refine W_label ?_ | refine W_skip ?_ | refine W_exit ?_ | refine W_ret ?_ | refine end_at0 ?_) | (with_reducible refine And.intro (fun h => ?_) (fun h => ?_)) | (with_reducible refine And.intro (by omega) ?_)); (try simp only [go_sem, seval, reduceCtorEq, hkk, ub, hge, hx, lv8BdAJ, Try.ntmps8, Try.results8, gvsS]))
        | fail)
      refine ⟨k + 1, [0, 1], hkl, by omega, ?_⟩
      simp [go_sem]
    · have hkk : ¬ (k : Int) < N := by omega
      repeat' (first
        | (with_reducible first | refine W_seq ?_ | refine W_condT rfl ?_ | refine W_condF rfl ?_ | refine W_tf rfl (fun h => ?_) (fun h => ?_) | refine W_block ?_ | refine W_scope ?_ | refine endQ_ret ?_ | refine endQ_normal ?_)
        | ((with_reducible first | refine hK _ ?_ | refine hK _ _ ?_); clear hK K)
        | ((first | (with_reducible first | refine ops_cons (fun K hK => ?_) | refine opsd_cons (fun K hK => ?_) | refine ops_nil ?_ | refine fit_i64 (by omega) ?_ | refine fit_u8 (by omega) ?_ | refine fit_u64 (by omega) ?_ | refine fit_u32 (by omega) ?_ | refine fit_any ?_ | refine quo_nn (by omega) ?_ | refine rem_nn (by omega) ?_ | refine quo_any ?_ | refine rem_any ?_ | refine sh_in (by simp only [IntKind.bits]; omega) ?_) | ((with_reducible refine opsd_nil ?_); refine And.intro (by kernel_rfl) ?_) | with_reducible refine callV_snap ?_ | (with_reducible first | refine slice_old ?_ | refine app_grow ?_ | refine idx_map (by omega) ?_ | refine W_reg lv8BdAJ ?_ | refine W_drw lv8BdAJ (by kernel_rfl) ?_ | refine W_label ?_ | refine W_skip ?_ | refine W_exit ?_ | refine W_ret ?_ | refine end_at0 ?_) | (with_reducible refine And.intro (fun h => ?_) (fun h => ?_)) | (with_reducible refine And.intro (by omega) ?_)); (try simp only [go_sem, seval, reduceCtorEq, hkk, hend, lv8BdAJ, Try.ntmps8, Try.results8, gvsS]))
        | fail)
end Go.Proofs.Ytniiaaagammebaa
