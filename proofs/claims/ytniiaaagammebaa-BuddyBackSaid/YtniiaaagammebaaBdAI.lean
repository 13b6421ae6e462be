/- BuddySwaps, by the engine. -/
import Derived.Test.YtniiaaagammebaaBdAH
namespace Go.Proofs.Ytniiaaagammebaa
open Go.RowKit
set_option maxRecDepth 100000
set_option linter.unusedSimpArgs false
set_option linter.unusedVariables false

abbrev lv7BdAI : List (Nat × List Nat) := [(0, [0, 1, 2, 3]), (1, [0, 1, 2, 3, 9]), (2, [2, 3, 9, 10, 11, 12]), (3, [2, 3, 9, 10, 11, 12, 35]), (4, [8]), (5, [3, 9, 10, 11, 13]), (6, [9, 10, 11, 13, 14]), (7, [9, 10, 11, 13, 14, 15, 16]), (8, [9, 10, 11, 13, 14, 15, 16, 17]), (9, [9, 11, 13, 15, 16, 17, 18, 19]), (10, [9, 15, 16, 17, 18, 19, 20]), (11, [8])]
abbrev Fq0S : Spec := FreeFS
theorem Fq0_ok : Ok Try.prog 14 Fq0S := FreeF_ok
abbrev Fq1S : Spec := FreeFS
theorem Fq1_ok : Ok Try.prog 14 Fq1S := FreeF_ok
abbrev Fq2S : Spec := FreeFS
theorem Fq2_ok : Ok Try.prog 14 Fq2S := FreeF_ok
abbrev Fq3S : Spec := FreeFS
theorem Fq3_ok : Ok Try.prog 14 Fq3S := FreeF_ok
abbrev Fq4S : Spec := FreeFS
theorem Fq4_ok : Ok Try.prog 14 Fq4S := FreeF_ok
theorem Gv.len {N : Nat} {m out : List Bl} (h : Gv N m out) : m.length ≤ 1000000 := by have := h.z.v.len; omega
def swpS : Spec := { rel := fun args ins res outs => ∃ (n : Int) (nums : List Int) (x y : Int), args = [iv n, dI nums, iv x, iv y] ∧ ins = [] ∧ res = bv true ∧ outs = [] }
set_option maxHeartbeats 8000000 in
theorem swp_ok : Ok Try.prog 7 swpS := by
  refine fn_ok swpS Try.func7 rfl rfl ?_
  rintro args ins res outs ⟨n, nums, x, y, rfl, rfl, rfl, rfl⟩
  refine ⟨by simp [Try.ntmps7], fun w0 V Bo mu0 => ?_⟩
  obtain ⟨N, hN⟩ : ∃ N : Nat, n % 257 = N := ⟨(n % 257).toNat, by omega⟩
  have hN6 : N ≤ 256 := by omega
  obtain ⟨hG, hl⟩ := scr_gv hN6 nums
  have script_at : scriptS.rel [iv n, dI nums] [] (.tup [.agg [iv N, dN (scr N nums).1], .row 0 2 0 (scr N nums).2.length, bv true]) [.rows 50 2 ((scr N nums).2.map encN)] := ⟨n, nums, N, hN, rfl, rfl, rfl, rfl⟩
  generalize (scr N nums).1 = m at *
  generalize (scr N nums).2 = out at *
  by_cases h2 : out.length < 2
  · have h2' : (out.length : Int) < 2 := by omega
    repeat' (first
      | (with_reducible first | refine W_seq ?_ | refine W_condT rfl ?_ | refine W_condF rfl ?_ | refine W_tf rfl (fun h => ?_) (fun h => ?_) | refine W_block ?_ | refine W_scope ?_ | refine endQ_ret ?_ | refine endQ_normal ?_)
      | ((with_reducible first | refine hK _ ?_ | refine hK _ _ ?_); clear hK K)
      | ((first | (with_reducible first | refine ops_cons (fun K hK => ?_) | refine opsd_cons (fun K hK => ?_) | refine ops_nil ?_ | refine fit_i64 (by omega) ?_ | refine fit_u8 (by omega) ?_ | refine fit_u64 (by omega) ?_ | refine fit_u32 (by omega) ?_ | refine fit_any ?_ | refine quo_nn (by omega) ?_ | refine rem_nn (by omega) ?_ | refine quo_any ?_ | refine rem_any ?_ | refine sh_in (by simp only [IntKind.bits]; omega) ?_) | ((with_reducible refine opsd_nil ?_); refine And.intro (by kernel_rfl) ?_) | with_reducible refine callV_snap ?_ | ((with_reducible refine call_go knwS knw_ok ?_); refine ⟨(by first | exact alOk_nil _ | exact alOk_f rfl), _, _, knw_at , ?_⟩) | ((with_reducible refine call_go scriptS script_ok ?_); refine ⟨(by first | exact alOk_nil _ | exact alOk_f rfl), _, _, script_at , ?_⟩) | (with_reducible first | refine slice_old ?_ | refine app_grow ?_ | refine idx_map (by omega) ?_ | refine W_reg lv7BdAI ?_ | refine W_drw lv7BdAI (by kernel_rfl) ?_ | refine W_label ?_ | refine W_skip ?_ | refine W_exit ?_ | refine W_ret ?_ | refine end_at0 ?_) | (with_reducible refine And.intro (fun h => ?_) (fun h => ?_)) | (with_reducible refine And.intro (by omega) ?_)); (try simp only [go_sem, seval, reduceCtorEq, h2', lv7BdAI, Try.ntmps7, Try.results7, swpS]))
      | fail)
  · have h2' : ¬ ((out.length : Int) < 2) := by omega
    have hLp : (0 : Int) < (out.length : Int) := by omega
    have hLp1 : (0 : Int) < (out.length : Int) - 1 := by omega
    obtain ⟨i, hi⟩ : ∃ i : Nat, x % (out.length : Int) = i := ⟨(x % (out.length : Int)).toNat, by have := Int.emod_nonneg x (show (out.length : Int) ≠ 0 by omega); omega⟩
    have hil : i < out.length := by have := Int.emod_lt_of_pos x hLp; omega
    obtain ⟨j, hj⟩ : ∃ j : Nat, y % ((out.length : Int) - 1) = j := ⟨(y % ((out.length : Int) - 1)).toNat, by have := Int.emod_nonneg y (show (out.length : Int) - 1 ≠ 0 by omega); omega⟩
    have hjl : j < out.length - 1 := by have := Int.emod_lt_of_pos y hLp1; omega
    obtain ⟨k, hk⟩ : ∃ k : Nat, (i + 1 + j) % out.length = k := ⟨_, rfl⟩
    have hk' : ((i : Int) + 1 + (j : Int)) % (out.length : Int) = (k : Int) := by rw [← hk]; norm_cast
    have hkl : k < out.length := by have := Nat.mod_lt (i + 1 + j) (show 0 < out.length by omega); omega
    have hne : i ≠ k := by
      rcases Nat.lt_or_ge (i + 1 + j) out.length with h | h
      · rw [Nat.mod_eq_of_lt h] at hk; omega
      · rw [Nat.mod_eq_sub_mod h, Nat.mod_eq_of_lt (by omega)] at hk; omega
    obtain ⟨oi, ni, gi, _⟩ := hG.at hil
    obtain ⟨ok, nk, gk, _⟩ := hG.at hkl
    obtain ⟨_, nik, _, e1⟩ := hG.two hil hkl hne
    obtain ⟨_, nki, _, e2⟩ := hG.two hkl hil (Ne.symm hne)
    have g2 : Vz N (bld N (frF (bld N (frF m out[i].1 out[i].2)) out[k].1 out[k].2)) := vn_vz (free_law gi.z.v ok nik).vn
    have hlen : (bld N (frF (bld N (frF m out[i].1 out[i].2)) out[k].1 out[k].2)).length ≤ 1000000 := by have := g2.v.len; omega
    have Fq0_at : FreeFS.rel [.agg [iv N, dN m], iv out[i].1, iv out[i].2] [] _ [] := free_at' hG.z oi ni rfl
    have Fq1_at : FreeFS.rel [.agg [iv N, dN _], iv out[k].1, iv out[k].2] [] _ [] := free_at' gi.z ok nik rfl
    have Fq2_at : FreeFS.rel [.agg [iv N, dN m], iv out[k].1, iv out[k].2] [] _ [] := free_at' hG.z ok nk rfl
    have Fq3_at : FreeFS.rel [.agg [iv N, dN _], iv out[i].1, iv out[i].2] [] _ [] := free_at' gk.z oi nki e1.symm
    generalize bld N (frF (bld N (frF m out[i].1 out[i].2)) out[k].1 out[k].2) = z2 at *
    generalize bld N (frF m out[i].1 out[i].2) = za at *
    generalize bld N (frF m out[k].1 out[k].2) = zb at *
    repeat' (first
      | (with_reducible first | refine W_seq ?_ | refine W_condT rfl ?_ | refine W_condF rfl ?_ | refine W_tf rfl (fun h => ?_) (fun h => ?_) | refine W_block ?_ | refine W_scope ?_ | refine endQ_ret ?_ | refine endQ_normal ?_)
      | ((with_reducible first | refine hK _ ?_ | refine hK _ _ ?_); clear hK K)
      | ((first | (with_reducible first | refine ops_cons (fun K hK => ?_) | refine opsd_cons (fun K hK => ?_) | refine ops_nil ?_ | refine fit_i64 (by omega) ?_ | refine fit_u8 (by omega) ?_ | refine fit_u64 (by omega) ?_ | refine fit_u32 (by omega) ?_ | refine fit_any ?_ | refine quo_nn (by omega) ?_ | refine rem_nn (by omega) ?_ | refine quo_any ?_ | refine rem_any ?_ | refine sh_in (by simp only [IntKind.bits]; omega) ?_) | ((with_reducible refine opsd_nil ?_); refine And.intro (by kernel_rfl) ?_) | with_reducible refine callV_snap ?_ | ((with_reducible refine call_go knwS knw_ok ?_); refine ⟨(by first | exact alOk_nil _ | exact alOk_f rfl), _, _, knw_at , ?_⟩) | ((with_reducible refine call_go scriptS script_ok ?_); refine ⟨(by first | exact alOk_nil _ | exact alOk_f rfl), _, _, script_at , ?_⟩) | ((with_reducible refine call_go ModS Mod_ok ?_); refine ⟨(by first | exact alOk_nil _ | exact alOk_f rfl), _, _, Mod_at x _ hLp (by omega), ?_⟩) | ((with_reducible refine call_go ModS Mod_ok ?_); refine ⟨(by first | exact alOk_nil _ | exact alOk_f rfl), _, _, Mod_at y _ hLp1 (by omega), ?_⟩) | ((with_reducible refine call_go ModS Mod_ok ?_); refine ⟨(by first | exact alOk_nil _ | exact alOk_f rfl), _, _, Mod_at _ (out.length : Int) hLp (by omega), ?_⟩) | ((with_reducible refine call_go Fq0S Fq0_ok ?_); refine ⟨(by first | exact alOk_nil _ | exact alOk_f rfl), _, _, Fq0_at , ?_⟩) | ((with_reducible refine call_go Fq1S Fq1_ok ?_); refine ⟨(by first | exact alOk_nil _ | exact alOk_f rfl), _, _, Fq1_at , ?_⟩) | ((with_reducible refine call_go Fq2S Fq2_ok ?_); refine ⟨(by first | exact alOk_nil _ | exact alOk_f rfl), _, _, Fq2_at , ?_⟩) | ((with_reducible refine call_go Fq3S Fq3_ok ?_); refine ⟨(by first | exact alOk_nil _ | exact alOk_f rfl), _, _, Fq3_at , ?_⟩) | ((with_reducible refine call_go SameBS SameB_ok ?_); refine ⟨(by first | exact alOk_nil _ | exact alOk_f rfl), _, _, SameB_at N z2 hlen, ?_⟩) | (with_reducible first | refine slice_old ?_ | refine app_grow ?_ | refine idx_map (by omega) ?_ | refine W_reg lv7BdAI ?_ | refine W_drw lv7BdAI (by kernel_rfl) ?_ | refine W_label ?_ | refine W_skip ?_ | refine W_exit ?_ | refine W_ret ?_ | refine end_at0 ?_) | (with_reducible refine And.intro (fun h => ?_) (fun h => ?_)) | (with_reducible refine And.intro (by omega) ?_)); (try simp only [go_sem, seval, reduceCtorEq, h2', hi, hj, hk', encN, lv7BdAI, Try.ntmps7, Try.results7, swpS]))
      | fail)
end Go.Proofs.Ytniiaaagammebaa
