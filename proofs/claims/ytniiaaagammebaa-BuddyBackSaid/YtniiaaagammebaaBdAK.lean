/- BuddyBack, by the engine. -/
import Derived.Test.YtniiaaagammebaaBdAI
namespace Go.Proofs.Ytniiaaagammebaa
open Go.RowKit
set_option maxRecDepth 100000
set_option linter.unusedSimpArgs false
set_option linter.unusedVariables false

abbrev lv6BdAK : List (Nat × List Nat) := [(0, [0, 1, 2, 3]), (1, [0, 1, 2, 3, 9]), (2, [2, 3, 9, 10, 11, 12]), (3, [2, 3, 9, 10, 11, 35]), (4, [8]), (5, [2, 3, 9, 10, 11]), (6, [2, 3, 9, 10, 11, 13, 14, 15]), (7, [2, 3, 9, 10, 11, 13, 14, 46]), (8, [2, 3, 9, 10, 11, 13, 14, 16, 17]), (9, [3, 9, 10, 11, 13, 16, 17, 18, 19]), (10, [3, 9, 10, 11, 78]), (11, [8]), (12, [3, 9, 10, 11, 20]), (13, [3, 9, 10, 11, 20, 81]), (14, [3, 9, 10, 11, 20]), (15, [3, 9, 10, 11, 20, 21]), (16, [3, 9, 10, 11, 20, 21, 22, 23]), (17, [3, 9, 10, 11, 20, 21, 22, 106]), (18, [8]), (19, [3, 9, 10, 11, 20, 21]), (20, [3, 9, 10, 11, 20]), (21, [9, 10, 24, 25]), (22, [8])]
def AtS : Spec := { rel := fun args ins res outs => ∃ (l : List Int) (i : Nat), args = [dI l, iv i] ∧ ins = [] ∧ res = iv (l[i]?.getD 0) ∧ outs = [] }
theorem At_at (l : List Int) (i : Nat) : AtS.rel [dI l, iv i] [] (iv (l[i]?.getD 0)) [] := ⟨l, i, rfl, rfl, rfl, rfl⟩
theorem At_ok : Ok Try.prog 37 AtS := by
  refine fn_ok AtS Try.func37 rfl rfl ?_
  rintro args ins res outs ⟨l, i, rfl, rfl, rfl, rfl⟩
  refine ⟨by simp [Try.ntmps37], fun w0 V Bo mu0 => ?_⟩
  have h0 : ¬ (i : Int) < 0 := by omega
  by_cases hlt : i < l.length
  · have hi : ¬ (l.length : Int) ≤ i := by omega
    have e : l[i]?.getD 0 = l[i] := by simp [hlt]
    repeat' (first
      | (with_reducible first | refine W_seq ?_ | refine W_condT rfl ?_ | refine W_condF rfl ?_ | refine W_tf rfl (fun h => ?_) (fun h => ?_) | refine W_block ?_ | refine W_scope ?_ | refine endQ_ret ?_ | refine endQ_normal ?_)
      | ((with_reducible first | refine hK _ ?_ | refine hK _ _ ?_); clear hK K)
      | ((first | (with_reducible first | refine ops_cons (fun K hK => ?_) | refine opsd_cons (fun K hK => ?_) | refine ops_nil ?_ | refine fit_i64 (by omega) ?_ | refine fit_u8 (by omega) ?_ | refine fit_u64 (by omega) ?_ | refine fit_u32 (by omega) ?_ | refine fit_any ?_ | refine quo_nn (by omega) ?_ | refine rem_nn (by omega) ?_ | refine quo_any ?_ | refine rem_any ?_ | refine sh_in (by simp only [IntKind.bits]; omega) ?_) | ((with_reducible refine opsd_nil ?_); refine And.intro (by kernel_rfl) ?_) | with_reducible refine callV_snap ?_ | (with_reducible first | refine slice_old ?_ | refine app_grow ?_ | refine idx_map (by omega) ?_ | refine W_reg [(0, [0, 1]), (1, [0, 1, 12]), (2, [4]), (3, [4])] ?_ | refine W_drw [(0, [0, 1]), (1, [0, 1, 12]), (2, [4]), (3, [4])] (by kernel_rfl) ?_ | refine W_label ?_ | refine W_skip ?_ | refine W_exit ?_ | refine W_ret ?_ | refine end_at0 ?_) | (with_reducible refine And.intro (fun h => ?_) (fun h => ?_)) | (with_reducible refine And.intro (by omega) ?_)); (try simp only [go_sem, seval, reduceCtorEq, h0, hi, e, encDI, Try.ntmps37, Try.results37, AtS]))
      | fail)
  · have hi : (l.length : Int) ≤ i := by omega
    have e : l[i]?.getD 0 = 0 := by simp [hlt]
    repeat' (first
      | (with_reducible first | refine W_seq ?_ | refine W_condT rfl ?_ | refine W_condF rfl ?_ | refine W_tf rfl (fun h => ?_) (fun h => ?_) | refine W_block ?_ | refine W_scope ?_ | refine endQ_ret ?_ | refine endQ_normal ?_)
      | ((with_reducible first | refine hK _ ?_ | refine hK _ _ ?_); clear hK K)
      | ((first | (with_reducible first | refine ops_cons (fun K hK => ?_) | refine opsd_cons (fun K hK => ?_) | refine ops_nil ?_ | refine fit_i64 (by omega) ?_ | refine fit_u8 (by omega) ?_ | refine fit_u64 (by omega) ?_ | refine fit_u32 (by omega) ?_ | refine fit_any ?_ | refine quo_nn (by omega) ?_ | refine rem_nn (by omega) ?_ | refine quo_any ?_ | refine rem_any ?_ | refine sh_in (by simp only [IntKind.bits]; omega) ?_) | ((with_reducible refine opsd_nil ?_); refine And.intro (by kernel_rfl) ?_) | with_reducible refine callV_snap ?_ | (with_reducible first | refine slice_old ?_ | refine app_grow ?_ | refine idx_map (by omega) ?_ | refine W_reg [(0, [0, 1]), (1, [0, 1, 12]), (2, [4]), (3, [4])] ?_ | refine W_drw [(0, [0, 1]), (1, [0, 1, 12]), (2, [4]), (3, [4])] (by kernel_rfl) ?_ | refine W_label ?_ | refine W_skip ?_ | refine W_exit ?_ | refine W_ret ?_ | refine end_at0 ?_) | (with_reducible refine And.intro (fun h => ?_) (fun h => ?_)) | (with_reducible refine And.intro (by omega) ?_)); (try simp only [go_sem, seval, reduceCtorEq, h0, hi, e, encDI, Try.ntmps37, Try.results37, AtS]))
      | fail)
abbrev SamePS : Spec := SameBS
theorem SameP_ok : Ok Try.prog 13 SamePS := SameB_ok
theorem SameP_at (n : Int) (m : List Bl) (h : m.length ≤ 1000000) : SamePS.rel [.agg [iv n, dN m], .agg [iv n, dN m]] [] (bv true) [] := SameB_at n m h
def bakS : Spec := { rel := fun args ins res outs => ∃ (n : Int) (nums : List Int) (o : Int) (by_ : List Int), args = [iv n, dI nums, iv o, dI by_] ∧ ins = [] ∧ res = bv true ∧ outs = [] }
set_option maxHeartbeats 8000000 in
theorem bak_ok : Ok Try.prog 6 bakS := by
  refine fn_ok bakS Try.func6 rfl rfl ?_
  rintro args ins res outs ⟨n, nums, o, ys, rfl, rfl, rfl, rfl⟩
  refine ⟨by simp [Try.ntmps6], fun w0 V Bo mu0 => ?_⟩
  obtain ⟨N, hN⟩ : ∃ N : Nat, n % 257 = N := ⟨(n % 257).toNat, by omega⟩
  have hN6 : N ≤ 256 := by omega
  obtain ⟨hG, hl⟩ := scr_gv hN6 nums
  have script_at : scriptS.rel [iv n, dI nums] [] (.tup [.agg [iv N, dN (scr N nums).1], .row 0 2 0 (scr N nums).2.length, bv true]) [.rows 50 2 ((scr N nums).2.map encN)] := ⟨n, nums, N, hN, rfl, rfl, rfl, rfl⟩
  generalize (scr N nums).1 = m at *
  generalize (scr N nums).2 = out at *
  obtain ⟨q, hq⟩ : ∃ q : Nat, o % 7 = q := ⟨(o % 7).toNat, by omega⟩
  have hq6 : q ≤ 6 := by omega
  cases hb : bestOf m q with
  | none =>
    have hno := bestOf_none hb
    have AllocF_at : AllocFS.rel [.agg [iv N, dN m], iv q] [] (.tup [.agg [iv 0, dN []], iv 0, iv 5]) [] := ⟨rfl, rfl, _, _, .inr (.inl ⟨N, m, q, hG.z, hq6, hno, rfl, rfl, rfl, rfl⟩), frz_e [] _ [.int .i64 0, .int .i64 5] rfl⟩
    repeat' (first
      | (with_reducible first | refine W_seq ?_ | refine W_condT rfl ?_ | refine W_condF rfl ?_ | refine W_tf rfl (fun h => ?_) (fun h => ?_) | refine W_block ?_ | refine W_scope ?_ | refine endQ_ret ?_ | refine endQ_normal ?_)
      | ((with_reducible first | refine hK _ ?_ | refine hK _ _ ?_); clear hK K)
      | ((first | (with_reducible first | refine ops_cons (fun K hK => ?_) | refine opsd_cons (fun K hK => ?_) | refine ops_nil ?_ | refine fit_i64 (by omega) ?_ | refine fit_u8 (by omega) ?_ | refine fit_u64 (by omega) ?_ | refine fit_u32 (by omega) ?_ | refine fit_any ?_ | refine quo_nn (by omega) ?_ | refine rem_nn (by omega) ?_ | refine quo_any ?_ | refine rem_any ?_ | refine sh_in (by simp only [IntKind.bits]; omega) ?_) | ((with_reducible refine opsd_nil ?_); refine And.intro (by kernel_rfl) ?_) | with_reducible refine callV_snap ?_ | ((with_reducible refine call_go knwS knw_ok ?_); refine ⟨(by first | exact alOk_nil _ | exact alOk_f rfl), _, _, knw_at , ?_⟩) | ((with_reducible refine call_go scriptS script_ok ?_); refine ⟨(by first | exact alOk_nil _ | exact alOk_f rfl), _, _, script_at , ?_⟩) | ((with_reducible refine call_go ModS Mod_ok ?_); refine ⟨(by first | exact alOk_nil _ | exact alOk_f rfl), _, _, Mod_at _ 7 (by omega) (by omega), ?_⟩) | ((with_reducible refine call_go AllocFS AllocF_ok ?_); refine ⟨(by first | exact alOk_nil _ | exact alOk_f rfl), _, _, AllocF_at , ?_⟩) | (with_reducible first | refine slice_old ?_ | refine app_grow ?_ | refine idx_map (by omega) ?_ | refine W_reg lv6BdAK ?_ | refine W_drw lv6BdAK (by kernel_rfl) ?_ | refine W_label ?_ | refine W_skip ?_ | refine W_exit ?_ | refine W_ret ?_ | refine end_at0 ?_) | (with_reducible refine And.intro (fun h => ?_) (fun h => ?_)) | (with_reducible refine And.intro (by omega) ?_)); (try simp only [go_sem, seval, reduceCtorEq, hq, lv6BdAK, Try.ntmps6, Try.results6, bakS]))
      | fail)
    refine W_loop (fun x : Nat × List Bl × List Bl => ⟨[(3, dI ys), (9, bv true), (10, .ptr 1 0), (11, .row 0 2 0 x.2.2.length), (20, iv x.1)], [some (.rows 50 2 (x.2.2.map encN)), some (.box 24 [iv N, dN x.2.1])]⟩) (fun x => x.1 + x.2.2.length = out.length ∧ Gv N x.2.1 x.2.2) (fun x => x.2.2.length) (0, m, out) ⟨by simp, hG⟩ [0, 1] ?_ ?_
    · simp [go_sem]
    rintro ⟨i, m1, l⟩ ⟨hi, hg⟩
    dsimp only at hi hg
    have ub := Try.underlying4
    by_cases hlt : 0 < l.length
    · have hki : (0 : Int) < l.length := by omega
      obtain ⟨k, hk⟩ : ∃ k : Nat, (ys[i]?.getD 0) % (l.length : Int) = k := ⟨((ys[i]?.getD 0) % (l.length : Int)).toNat, by have := Int.emod_nonneg (ys[i]?.getD 0) (show (l.length : Int) ≠ 0 by omega); omega⟩
      have hkl : k < l.length := by have := Int.emod_lt_of_pos (ys[i]?.getD 0) hki; omega
      obtain ⟨ok, nk, gk, _⟩ := hg.at hkl
      have hle : (l.take k ++ l.drop (k + 1)).length = l.length - 1 := by simp; omega
      have e0 : encN l[k] = [.int .i64 (l[k].1 : Int), .int .i64 (l[k].2 : Int)] := rfl
      have Fq1_at : FreeFS.rel [.agg [iv N, dN m1], iv l[k].1, iv l[k].2] [] (.tup [.agg [iv N, dN (bld N (frF m1 l[k].1 l[k].2))], iv 0]) [] := free_at' hg.z ok nk rfl
      generalize bld N (frF m1 l[k].1 l[k].2) = m3 at *
      have htk : (List.take k (List.map encN l)).length = k := by simp; omega
      have hdl : (List.drop (k + 1) (List.map encN l)).length = l.length - (k + 1) := by simp
      have hk1 : (k : Int) + 1 = ((k + 1 : Nat) : Int) := by omega
      have hdt : List.take (l.length - (k + 1)) (List.drop (k + 1) (List.map encN l)) = List.drop (k + 1) (List.map encN l) := List.take_of_length_le (by simp)
      have htt : List.take k (List.take k (List.map encN l)) = List.take k (List.map encN l) := by rw [List.take_take, Nat.min_self]
      have hl2 : (l.take k ++ l.drop (k + 1)).length = k + (l.length - (k + 1)) := by simp; omega
      repeat' (first
        | (with_reducible first | refine W_seq ?_ | refine W_condT rfl ?_ | refine W_condF rfl ?_ | refine W_tf rfl (fun h => ?_) (fun h => ?_) | refine W_block ?_ | refine W_scope ?_ | refine endQ_ret ?_ | refine endQ_normal ?_)
        | ((with_reducible first | refine hK _ ?_ | refine hK _ _ ?_); clear hK K)
        | ((first | (with_reducible first | refine ops_cons (fun K hK => ?_) | refine opsd_cons (fun K hK => ?_) | refine ops_nil ?_ | refine fit_i64 (by omega) ?_ | refine fit_u8 (by omega) ?_ | refine fit_u64 (by omega) ?_ | refine fit_u32 (by omega) ?_ | refine fit_any ?_ | refine quo_nn (by omega) ?_ | refine rem_nn (by omega) ?_ | refine quo_any ?_ | refine rem_any ?_ | refine sh_in (by simp only [IntKind.bits]; omega) ?_) | ((with_reducible refine opsd_nil ?_); refine And.intro (by kernel_rfl) ?_) | with_reducible refine callV_snap ?_ | ((with_reducible refine call_go AtS At_ok ?_); refine ⟨(by first | exact alOk_nil _ | exact alOk_f rfl), _, _, At_at ys i, ?_⟩) | ((with_reducible refine call_go ModS Mod_ok ?_); refine ⟨(by first | exact alOk_nil _ | exact alOk_f rfl), _, _, Mod_at _ (l.length : Int) hki (by omega), ?_⟩) | ((with_reducible refine call_go Fq1S Fq1_ok ?_); refine ⟨(by first | exact alOk_nil _ | exact alOk_f rfl), _, _, Fq1_at , ?_⟩) | (with_reducible first | refine slice_old ?_ | refine app_grow ?_ | refine idx_map (by omega) ?_ | refine W_reg lv6BdAK ?_ | refine W_drw lv6BdAK (by kernel_rfl) ?_ | refine W_label ?_ | refine W_skip ?_ | refine W_exit ?_ | refine W_ret ?_ | refine end_at0 ?_) | (with_reducible refine And.intro (fun h => ?_) (fun h => ?_)) | (with_reducible refine And.intro (by omega) ?_)); (try simp only [go_sem, seval, reduceCtorEq, hki, hk, e0, htk, hdl, hk1, hdt, htt, lv6BdAK, Try.ntmps6, Try.results6, bakS]))
        | fail)
      refine ⟨(i + 1, m3, l.take k ++ l.drop (k + 1)), [5, 1], ⟨by dsimp only; omega, gk⟩, by dsimp only; omega, ?_⟩
      simp only [hl2]
      simp [go_sem]
    · have hki : ¬ (0 : Int) < l.length := by omega
      obtain rfl : l = [] := List.eq_nil_of_length_eq_zero (by omega)
      obtain rfl := hg.nil
      have NewF_at : NewFS.rel [iv N] [] (.tup [.agg [iv N, dN (bld N (fl N))], iv 0]) [] := ⟨rfl, rfl, _, _, .inr ⟨N, hN6, rfl, rfl, rfl, rfl⟩, frz_z N _ _ [.int .i64 0] rfl⟩
      have hm0 : (bld N (fl N)).length ≤ 1000000 := bld_le hN6
      generalize bld N (fl N) = m0' at *
      repeat' (first
        | (with_reducible first | refine W_seq ?_ | refine W_condT rfl ?_ | refine W_condF rfl ?_ | refine W_tf rfl (fun h => ?_) (fun h => ?_) | refine W_block ?_ | refine W_scope ?_ | refine endQ_ret ?_ | refine endQ_normal ?_)
        | ((with_reducible first | refine hK _ ?_ | refine hK _ _ ?_); clear hK K)
        | ((first | (with_reducible first | refine ops_cons (fun K hK => ?_) | refine opsd_cons (fun K hK => ?_) | refine ops_nil ?_ | refine fit_i64 (by omega) ?_ | refine fit_u8 (by omega) ?_ | refine fit_u64 (by omega) ?_ | refine fit_u32 (by omega) ?_ | refine fit_any ?_ | refine quo_nn (by omega) ?_ | refine rem_nn (by omega) ?_ | refine quo_any ?_ | refine rem_any ?_ | refine sh_in (by simp only [IntKind.bits]; omega) ?_) | ((with_reducible refine opsd_nil ?_); refine And.intro (by kernel_rfl) ?_) | with_reducible refine callV_snap ?_ | ((with_reducible refine call_go NewFS NewF_ok ?_); refine ⟨(by first | exact alOk_nil _ | exact alOk_f rfl), _, _, NewF_at , ?_⟩) | ((with_reducible refine call_go SamePS SameP_ok ?_); refine ⟨(by first | exact alOk_nil _ | exact alOk_f rfl), _, _, SameP_at N m0' hm0, ?_⟩) | (with_reducible first | refine slice_old ?_ | refine app_grow ?_ | refine idx_map (by omega) ?_ | refine W_reg lv6BdAK ?_ | refine W_drw lv6BdAK (by kernel_rfl) ?_ | refine W_label ?_ | refine W_skip ?_ | refine W_exit ?_ | refine W_ret ?_ | refine end_at0 ?_) | (with_reducible refine And.intro (fun h => ?_) (fun h => ?_)) | (with_reducible refine And.intro (by omega) ?_)); (try simp only [go_sem, seval, reduceCtorEq, hki, lv6BdAK, Try.ntmps6, Try.results6, bakS]))
        | fail)
  | some b =>
    have hbest := bestOf_some hb
    obtain ⟨v1, o1, n1, a1, e1⟩ := hG.back hq6 hbest
    have hml := hG.len
    have hml2 : (bld N (frA m b.1 q)).length ≤ 1000000 := by have := v1.v.len; omega
    have AllocF_at : AllocFS.rel [.agg [iv N, dN m], iv q] [] (.tup [.agg [iv N, dN (bld N (frA m b.1 q))], iv b.1, iv 0]) [] := alloc_at' hG.z hq6 hbest rfl
    have Fq0_at : FreeFS.rel [.agg [iv N, dN (bld N (frA m b.1 q))], iv b.1, iv q] [] (.tup [.agg [iv N, dN m], iv 0]) [] := free_at' v1 o1 n1 e1
    have TakeF_at : TakeFS.rel [.agg [iv N, dN m], iv b.1, iv q] [] (.tup [.agg [iv N, dN (bld N (frA m b.1 q))], iv 0]) [] := take_at' hG.z o1 a1 rfl
    generalize bld N (frA m b.1 q) = m2 at *
    repeat' (first
      | (with_reducible first | refine W_seq ?_ | refine W_condT rfl ?_ | refine W_condF rfl ?_ | refine W_tf rfl (fun h => ?_) (fun h => ?_) | refine W_block ?_ | refine W_scope ?_ | refine endQ_ret ?_ | refine endQ_normal ?_)
      | ((with_reducible first | refine hK _ ?_ | refine hK _ _ ?_); clear hK K)
      | ((first | (with_reducible first | refine ops_cons (fun K hK => ?_) | refine opsd_cons (fun K hK => ?_) | refine ops_nil ?_ | refine fit_i64 (by omega) ?_ | refine fit_u8 (by omega) ?_ | refine fit_u64 (by omega) ?_ | refine fit_u32 (by omega) ?_ | refine fit_any ?_ | refine quo_nn (by omega) ?_ | refine rem_nn (by omega) ?_ | refine quo_any ?_ | refine rem_any ?_ | refine sh_in (by simp only [IntKind.bits]; omega) ?_) | ((with_reducible refine opsd_nil ?_); refine And.intro (by kernel_rfl) ?_) | with_reducible refine callV_snap ?_ | ((with_reducible refine call_go knwS knw_ok ?_); refine ⟨(by first | exact alOk_nil _ | exact alOk_f rfl), _, _, knw_at , ?_⟩) | ((with_reducible refine call_go scriptS script_ok ?_); refine ⟨(by first | exact alOk_nil _ | exact alOk_f rfl), _, _, script_at , ?_⟩) | ((with_reducible refine call_go ModS Mod_ok ?_); refine ⟨(by first | exact alOk_nil _ | exact alOk_f rfl), _, _, Mod_at _ 7 (by omega) (by omega), ?_⟩) | ((with_reducible refine call_go AllocFS AllocF_ok ?_); refine ⟨(by first | exact alOk_nil _ | exact alOk_f rfl), _, _, AllocF_at , ?_⟩) | ((with_reducible refine call_go Fq0S Fq0_ok ?_); refine ⟨(by first | exact alOk_nil _ | exact alOk_f rfl), _, _, Fq0_at , ?_⟩) | ((with_reducible refine call_go TakeFS TakeF_ok ?_); refine ⟨(by first | exact alOk_nil _ | exact alOk_f rfl), _, _, TakeF_at , ?_⟩) | ((with_reducible refine call_go SameBS SameB_ok ?_); refine ⟨(by first | exact alOk_nil _ | exact alOk_f rfl), _, _, SameB_at N m hml, ?_⟩) | ((with_reducible refine call_go SamePS SameP_ok ?_); refine ⟨(by first | exact alOk_nil _ | exact alOk_f rfl), _, _, SameP_at N m2 hml2, ?_⟩) | (with_reducible first | refine slice_old ?_ | refine app_grow ?_ | refine idx_map (by omega) ?_ | refine W_reg lv6BdAK ?_ | refine W_drw lv6BdAK (by kernel_rfl) ?_ | refine W_label ?_ | refine W_skip ?_ | refine W_exit ?_ | refine W_ret ?_ | refine end_at0 ?_) | (with_reducible refine And.intro (fun h => ?_) (fun h => ?_)) | (with_reducible refine And.intro (by omega) ?_)); (try simp only [go_sem, seval, reduceCtorEq, hq, lv6BdAK, Try.ntmps6, Try.results6, bakS]))
      | fail)
    refine W_loop (fun x : Nat × List Bl × List Bl => ⟨[(3, dI ys), (9, bv true), (10, .ptr 1 0), (11, .row 0 2 0 x.2.2.length), (20, iv x.1)], [some (.rows 50 2 (x.2.2.map encN)), some (.box 24 [iv N, dN x.2.1])]⟩) (fun x => x.1 + x.2.2.length = out.length ∧ Gv N x.2.1 x.2.2) (fun x => x.2.2.length) (0, m, out) ⟨by simp, hG⟩ [0, 1] ?_ ?_
    · simp [go_sem]
    rintro ⟨i, m1, l⟩ ⟨hi, hg⟩
    dsimp only at hi hg
    have ub := Try.underlying4
    by_cases hlt : 0 < l.length
    · have hki : (0 : Int) < l.length := by omega
      obtain ⟨k, hk⟩ : ∃ k : Nat, (ys[i]?.getD 0) % (l.length : Int) = k := ⟨((ys[i]?.getD 0) % (l.length : Int)).toNat, by have := Int.emod_nonneg (ys[i]?.getD 0) (show (l.length : Int) ≠ 0 by omega); omega⟩
      have hkl : k < l.length := by have := Int.emod_lt_of_pos (ys[i]?.getD 0) hki; omega
      obtain ⟨ok, nk, gk, _⟩ := hg.at hkl
      have hle : (l.take k ++ l.drop (k + 1)).length = l.length - 1 := by simp; omega
      have e0 : encN l[k] = [.int .i64 (l[k].1 : Int), .int .i64 (l[k].2 : Int)] := rfl
      have Fq1_at : FreeFS.rel [.agg [iv N, dN m1], iv l[k].1, iv l[k].2] [] (.tup [.agg [iv N, dN (bld N (frF m1 l[k].1 l[k].2))], iv 0]) [] := free_at' hg.z ok nk rfl
      generalize bld N (frF m1 l[k].1 l[k].2) = m3 at *
      have htk : (List.take k (List.map encN l)).length = k := by simp; omega
      have hdl : (List.drop (k + 1) (List.map encN l)).length = l.length - (k + 1) := by simp
      have hk1 : (k : Int) + 1 = ((k + 1 : Nat) : Int) := by omega
      have hdt : List.take (l.length - (k + 1)) (List.drop (k + 1) (List.map encN l)) = List.drop (k + 1) (List.map encN l) := List.take_of_length_le (by simp)
      have htt : List.take k (List.take k (List.map encN l)) = List.take k (List.map encN l) := by rw [List.take_take, Nat.min_self]
      have hl2 : (l.take k ++ l.drop (k + 1)).length = k + (l.length - (k + 1)) := by simp; omega
      repeat' (first
        | (with_reducible first | refine W_seq ?_ | refine W_condT rfl ?_ | refine W_condF rfl ?_ | refine W_tf rfl (fun h => ?_) (fun h => ?_) | refine W_block ?_ | refine W_scope ?_ | refine endQ_ret ?_ | refine endQ_normal ?_)
        | ((with_reducible first | refine hK _ ?_ | refine hK _ _ ?_); clear hK K)
        | ((first | (with_reducible first | refine ops_cons (fun K hK => ?_) | refine opsd_cons (fun K hK => ?_) | refine ops_nil ?_ | refine fit_i64 (by omega) ?_ | refine fit_u8 (by omega) ?_ | refine fit_u64 (by omega) ?_ | refine fit_u32 (by omega) ?_ | refine fit_any ?_ | refine quo_nn (by omega) ?_ | refine rem_nn (by omega) ?_ | refine quo_any ?_ | refine rem_any ?_ | refine sh_in (by simp only [IntKind.bits]; omega) ?_) | ((with_reducible refine opsd_nil ?_); refine And.intro (by kernel_rfl) ?_) | with_reducible refine callV_snap ?_ | ((with_reducible refine call_go AtS At_ok ?_); refine ⟨(by first | exact alOk_nil _ | exact alOk_f rfl), _, _, At_at ys i, ?_⟩) | ((with_reducible refine call_go ModS Mod_ok ?_); refine ⟨(by first | exact alOk_nil _ | exact alOk_f rfl), _, _, Mod_at _ (l.length : Int) hki (by omega), ?_⟩) | ((with_reducible refine call_go Fq1S Fq1_ok ?_); refine ⟨(by first | exact alOk_nil _ | exact alOk_f rfl), _, _, Fq1_at , ?_⟩) | (with_reducible first | refine slice_old ?_ | refine app_grow ?_ | refine idx_map (by omega) ?_ | refine W_reg lv6BdAK ?_ | refine W_drw lv6BdAK (by kernel_rfl) ?_ | refine W_label ?_ | refine W_skip ?_ | refine W_exit ?_ | refine W_ret ?_ | refine end_at0 ?_) | (with_reducible refine And.intro (fun h => ?_) (fun h => ?_)) | (with_reducible refine And.intro (by omega) ?_)); (try simp only [go_sem, seval, reduceCtorEq, hki, hk, e0, htk, hdl, hk1, hdt, htt, lv6BdAK, Try.ntmps6, Try.results6, bakS]))
        | fail)
      refine ⟨(i + 1, m3, l.take k ++ l.drop (k + 1)), [5, 1], ⟨by dsimp only; omega, gk⟩, by dsimp only; omega, ?_⟩
      simp only [hl2]
      simp [go_sem]
    · have hki : ¬ (0 : Int) < l.length := by omega
      obtain rfl : l = [] := List.eq_nil_of_length_eq_zero (by omega)
      obtain rfl := hg.nil
      have NewF_at : NewFS.rel [iv N] [] (.tup [.agg [iv N, dN (bld N (fl N))], iv 0]) [] := ⟨rfl, rfl, _, _, .inr ⟨N, hN6, rfl, rfl, rfl, rfl⟩, frz_z N _ _ [.int .i64 0] rfl⟩
      have hm0 : (bld N (fl N)).length ≤ 1000000 := bld_le hN6
      generalize bld N (fl N) = m0' at *
      repeat' (first
        | (with_reducible first | refine W_seq ?_ | refine W_condT rfl ?_ | refine W_condF rfl ?_ | refine W_tf rfl (fun h => ?_) (fun h => ?_) | refine W_block ?_ | refine W_scope ?_ | refine endQ_ret ?_ | refine endQ_normal ?_)
        | ((with_reducible first | refine hK _ ?_ | refine hK _ _ ?_); clear hK K)
        | ((first | (with_reducible first | refine ops_cons (fun K hK => ?_) | refine opsd_cons (fun K hK => ?_) | refine ops_nil ?_ | refine fit_i64 (by omega) ?_ | refine fit_u8 (by omega) ?_ | refine fit_u64 (by omega) ?_ | refine fit_u32 (by omega) ?_ | refine fit_any ?_ | refine quo_nn (by omega) ?_ | refine rem_nn (by omega) ?_ | refine quo_any ?_ | refine rem_any ?_ | refine sh_in (by simp only [IntKind.bits]; omega) ?_) | ((with_reducible refine opsd_nil ?_); refine And.intro (by kernel_rfl) ?_) | with_reducible refine callV_snap ?_ | ((with_reducible refine call_go NewFS NewF_ok ?_); refine ⟨(by first | exact alOk_nil _ | exact alOk_f rfl), _, _, NewF_at , ?_⟩) | ((with_reducible refine call_go SamePS SameP_ok ?_); refine ⟨(by first | exact alOk_nil _ | exact alOk_f rfl), _, _, SameP_at N m0' hm0, ?_⟩) | (with_reducible first | refine slice_old ?_ | refine app_grow ?_ | refine idx_map (by omega) ?_ | refine W_reg lv6BdAK ?_ | refine W_drw lv6BdAK (by kernel_rfl) ?_ | refine W_label ?_ | refine W_skip ?_ | refine W_exit ?_ | refine W_ret ?_ | refine end_at0 ?_) | (with_reducible refine And.intro (fun h => ?_) (fun h => ?_)) | (with_reducible refine And.intro (by omega) ?_)); (try simp only [go_sem, seval, reduceCtorEq, hki, lv6BdAK, Try.ntmps6, Try.results6, bakS]))
        | fail)
end Go.Proofs.Ytniiaaagammebaa
