/- A flat memory: step at the numbers of two kinds, by the engine. -/
import Derived.Test.YtdfolpfibhfmlaaFlBA
namespace Go.Proofs.Ytdfolpfibhfmlaa
open Go.RowKit
set_option maxRecDepth 100000
set_option linter.unusedSimpArgs false
set_option linter.unusedVariables false

abbrev lv40FlBC : List (Nat × List Nat) := [(0, [1, 2, 4]), (1, [1, 2, 4]), (2, [1, 2, 4, 6, 7]), (3, [1, 2, 4, 6, 7, 8]), (4, [1, 2, 4, 6, 7, 8, 9]), (5, [1, 2, 4, 6, 7, 8, 9, 21]), (6, [2, 4, 8, 9]), (7, [1, 2, 4, 6, 7, 8, 9, 21, 36]), (8, [2, 4, 8, 9]), (9, [1, 2, 4, 6, 7, 8, 9, 21, 44]), (10, [2, 4, 8, 9]), (11, [1, 2, 4, 6, 7, 8, 9, 21, 58]), (12, [2, 4, 8, 9]), (13, [1, 2, 4, 6, 7, 8, 9, 21, 68]), (14, [2, 4, 8, 9]), (15, [1, 2, 4, 6, 7, 8, 9, 80]), (16, [2, 4, 6, 8, 9, 85]), (17, [2, 4, 8, 9]), (18, [2, 4, 8, 92]), (19, [2, 4, 8, 92, 93]), (20, [4, 5]), (21, [2, 4, 92, 99]), (22, [2, 4, 92, 99]), (23, [2, 4, 92, 99]), (24, [2, 4, 92, 99]), (25, [2, 4, 99]), (26, [4, 5]), (27, [4, 5])]
set_option maxHeartbeats 16000000 in
theorem stp2_ok : Ok Try.prog 40 stp2S := by
  refine fn_ok stp2S Try.func40 rfl rfl ?_
  rintro args ins res outs ⟨s, n, hV, r0, rfl, rfl, rfl, rfl⟩
  refine ⟨by simp [Try.ntmps40], fun w0 V Bo mu0 => ?_⟩
  have hlen := vl_len hV
  have la := hV.la
  have lm := hV.lm
  have hu := hV.u
  have hck := vl_chk hV
  have hoV := @op_val (numN n) s hV
  have hoE := @op_err (numN n) s hV
  obtain ⟨al, mp, cs⟩ := s
  dsimp only at hlen la lm hu hck
  have hm := m_num n
  have hml := num_lt n
  generalize numN n = m at *
  have hm0 : (0 : Int) ≤ (m : Int) := by omega
  obtain ⟨k, hk⟩ : ∃ k, m / 8 % 3 = k := ⟨_, rfl⟩
  obtain ⟨g, hg⟩ : ∃ g, m / 24 % 6 = g := ⟨_, rfl⟩
  have hk8 : k < 8 := by omega
  have w1 : (m : Int) / 8 % 3 = (k : Int) := by omega
  have w2 : (m : Int) / 24 % 6 = (g : Int) := by omega
  have w3 : (1 : Int) + (k : Int) = (k : Int) + 1 := by omega
  have tail : ∀ (r : FSt × Int), opOf m (al, mp, cs) = r → aft (opOf m) (al, mp, cs) = if r.2 = 0 then r.1 else (al, mp, cs) := fun r hr => by unfold aft; rw [hr]
  have hop : opOf m = oUn k (g : Int) (g : Int) := by unfold opOf; rw [if_neg (by omega), if_neg (by omega), if_pos r0, hk, hg]
  have hm8 : (m : Int) % 8 = 2 := by omega
  have W0 := UnmF_at al mp cs ((k : Int) + 1) (g : Int) (g : Int) hu (by omega) (by omega) (by omega)
  rw [hop] at hoV hoE
  have ht := fun r (e : oUn k (g : Int) (g : Int) (al, mp, cs) = r) => tail r (by rw [hop]; exact e)
  have hR : oUn k (g : Int) (g : Int) (al, mp, cs) = unmF al mp cs ((k : Int) + 1) (g : Int) (g : Int) := rfl
  rw [hR] at hoV hoE ht
  generalize unmF al mp cs ((k : Int) + 1) (g : Int) (g : Int) = R at *
  rw [ht R rfl]
  obtain ⟨⟨A, M, C⟩, e⟩ := R
  dsimp only at hoV hoE ⊢
  have UnmF_at : UnmFS.rel [fm al mp cs, iv ((k : Int) + 1), iv (g : Int), iv (g : Int)] [] (.tup [fm A M C, iv e]) [] := W0
  rcases hoE with rfl | rfl | rfl | rfl | rfl | rfl
  · have hV2 := hoV rfl
    have l2 := vl_len hV2
    have la2 := hV2.la
    have lm2 := hV2.lm
    have C0 := Ck_at A M C hV2.u (by dsimp only at la2; omega) (by dsimp only at lm2; omega) (by dsimp only at l2; omega)
    rw [vl_chk hV2] at C0
    have Ck_at : CkS.rel [fm A M C] [] (iv 0) [] := C0
    rw [if_pos rfl]
    dsimp only
    repeat' (first
      | (with_reducible first | refine W_seq ?_ | refine W_condT rfl ?_ | refine W_condF rfl ?_ | refine W_tf rfl (fun h => ?_) (fun h => ?_) | refine W_block ?_ | refine endQ_ret ?_ | refine endQ_normal ?_)
      | ((with_reducible first | refine hK _ ?_ | refine hK _ _ ?_); clear hK K)
      | ((first | (with_reducible first | refine ops_cons (fun K hK => ?_) | refine opsd_cons (fun K hK => ?_) | refine ops_nil ?_ | refine fit_i64 (by omega) ?_ | refine fit_u8 (by omega) ?_ | refine fit_u64 (by omega) ?_ | refine fit_u32 (by omega) ?_ | refine fit_any ?_ | refine quo_nn (by omega) ?_ | refine rem_nn (by omega) ?_ | refine quo_any ?_ | refine rem_any ?_) | ((with_reducible refine opsd_nil ?_); refine And.intro (by kernel_rfl) ?_) | with_reducible refine callV_snap ?_ | ((with_reducible refine call_go ModS Mod_ok ?_); refine ⟨(by first | exact alOk_nil _ | exact alOk_f rfl), _, _, Mod_at n 16777216 (by decide) (by decide), ?_⟩) | ((with_reducible refine call_go UnmFS UnmF_ok ?_); refine ⟨(by first | exact alOk_nil _ | exact alOk_f rfl), _, _, UnmF_at , ?_⟩) | ((with_reducible refine call_go CkS Ck_ok ?_); refine ⟨(by first | exact alOk_nil _ | exact alOk_f rfl), _, _, Ck_at , ?_⟩) | (with_reducible first | refine W_reg lv40FlBC ?_ | refine W_drw lv40FlBC (by kernel_rfl) ?_ | refine W_skip ?_ | refine W_ret ?_ | refine end_at0 ?_) | (with_reducible refine And.intro (fun h => ?_) (fun h => ?_)) | (with_reducible refine And.intro (by omega) ?_)); (try simp only [go_sem, seval, reduceCtorEq, hm, hm8, w1, w2, w3, lv40FlBC, Try.ntmps40, Try.results40, stp2S]))
      | fail)
  · rw [if_neg (by decide)]
    dsimp only
    repeat' (first
      | (with_reducible first | refine W_seq ?_ | refine W_condT rfl ?_ | refine W_condF rfl ?_ | refine W_tf rfl (fun h => ?_) (fun h => ?_) | refine W_block ?_ | refine endQ_ret ?_ | refine endQ_normal ?_)
      | ((with_reducible first | refine hK _ ?_ | refine hK _ _ ?_); clear hK K)
      | ((first | (with_reducible first | refine ops_cons (fun K hK => ?_) | refine opsd_cons (fun K hK => ?_) | refine ops_nil ?_ | refine fit_i64 (by omega) ?_ | refine fit_u8 (by omega) ?_ | refine fit_u64 (by omega) ?_ | refine fit_u32 (by omega) ?_ | refine fit_any ?_ | refine quo_nn (by omega) ?_ | refine rem_nn (by omega) ?_ | refine quo_any ?_ | refine rem_any ?_) | ((with_reducible refine opsd_nil ?_); refine And.intro (by kernel_rfl) ?_) | with_reducible refine callV_snap ?_ | ((with_reducible refine call_go ModS Mod_ok ?_); refine ⟨(by first | exact alOk_nil _ | exact alOk_f rfl), _, _, Mod_at n 16777216 (by decide) (by decide), ?_⟩) | ((with_reducible refine call_go UnmFS UnmF_ok ?_); refine ⟨(by first | exact alOk_nil _ | exact alOk_f rfl), _, _, UnmF_at , ?_⟩) | (with_reducible first | refine W_reg lv40FlBC ?_ | refine W_drw lv40FlBC (by kernel_rfl) ?_ | refine W_skip ?_ | refine W_ret ?_ | refine end_at0 ?_) | (with_reducible refine And.intro (fun h => ?_) (fun h => ?_)) | (with_reducible refine And.intro (by omega) ?_)); (try simp only [go_sem, seval, reduceCtorEq, hm, hm8, w1, w2, w3, lv40FlBC, Try.ntmps40, Try.results40, stp2S]))
      | fail)
  · rw [if_neg (by decide)]
    dsimp only
    repeat' (first
      | (with_reducible first | refine W_seq ?_ | refine W_condT rfl ?_ | refine W_condF rfl ?_ | refine W_tf rfl (fun h => ?_) (fun h => ?_) | refine W_block ?_ | refine endQ_ret ?_ | refine endQ_normal ?_)
      | ((with_reducible first | refine hK _ ?_ | refine hK _ _ ?_); clear hK K)
      | ((first | (with_reducible first | refine ops_cons (fun K hK => ?_) | refine opsd_cons (fun K hK => ?_) | refine ops_nil ?_ | refine fit_i64 (by omega) ?_ | refine fit_u8 (by omega) ?_ | refine fit_u64 (by omega) ?_ | refine fit_u32 (by omega) ?_ | refine fit_any ?_ | refine quo_nn (by omega) ?_ | refine rem_nn (by omega) ?_ | refine quo_any ?_ | refine rem_any ?_) | ((with_reducible refine opsd_nil ?_); refine And.intro (by kernel_rfl) ?_) | with_reducible refine callV_snap ?_ | ((with_reducible refine call_go ModS Mod_ok ?_); refine ⟨(by first | exact alOk_nil _ | exact alOk_f rfl), _, _, Mod_at n 16777216 (by decide) (by decide), ?_⟩) | ((with_reducible refine call_go UnmFS UnmF_ok ?_); refine ⟨(by first | exact alOk_nil _ | exact alOk_f rfl), _, _, UnmF_at , ?_⟩) | (with_reducible first | refine W_reg lv40FlBC ?_ | refine W_drw lv40FlBC (by kernel_rfl) ?_ | refine W_skip ?_ | refine W_ret ?_ | refine end_at0 ?_) | (with_reducible refine And.intro (fun h => ?_) (fun h => ?_)) | (with_reducible refine And.intro (by omega) ?_)); (try simp only [go_sem, seval, reduceCtorEq, hm, hm8, w1, w2, w3, lv40FlBC, Try.ntmps40, Try.results40, stp2S]))
      | fail)
  · rw [if_neg (by decide)]
    dsimp only
    repeat' (first
      | (with_reducible first | refine W_seq ?_ | refine W_condT rfl ?_ | refine W_condF rfl ?_ | refine W_tf rfl (fun h => ?_) (fun h => ?_) | refine W_block ?_ | refine endQ_ret ?_ | refine endQ_normal ?_)
      | ((with_reducible first | refine hK _ ?_ | refine hK _ _ ?_); clear hK K)
      | ((first | (with_reducible first | refine ops_cons (fun K hK => ?_) | refine opsd_cons (fun K hK => ?_) | refine ops_nil ?_ | refine fit_i64 (by omega) ?_ | refine fit_u8 (by omega) ?_ | refine fit_u64 (by omega) ?_ | refine fit_u32 (by omega) ?_ | refine fit_any ?_ | refine quo_nn (by omega) ?_ | refine rem_nn (by omega) ?_ | refine quo_any ?_ | refine rem_any ?_) | ((with_reducible refine opsd_nil ?_); refine And.intro (by kernel_rfl) ?_) | with_reducible refine callV_snap ?_ | ((with_reducible refine call_go ModS Mod_ok ?_); refine ⟨(by first | exact alOk_nil _ | exact alOk_f rfl), _, _, Mod_at n 16777216 (by decide) (by decide), ?_⟩) | ((with_reducible refine call_go UnmFS UnmF_ok ?_); refine ⟨(by first | exact alOk_nil _ | exact alOk_f rfl), _, _, UnmF_at , ?_⟩) | (with_reducible first | refine W_reg lv40FlBC ?_ | refine W_drw lv40FlBC (by kernel_rfl) ?_ | refine W_skip ?_ | refine W_ret ?_ | refine end_at0 ?_) | (with_reducible refine And.intro (fun h => ?_) (fun h => ?_)) | (with_reducible refine And.intro (by omega) ?_)); (try simp only [go_sem, seval, reduceCtorEq, hm, hm8, w1, w2, w3, lv40FlBC, Try.ntmps40, Try.results40, stp2S]))
      | fail)
  · rw [if_neg (by decide)]
    dsimp only
    repeat' (first
      | (with_reducible first | refine W_seq ?_ | refine W_condT rfl ?_ | refine W_condF rfl ?_ | refine W_tf rfl (fun h => ?_) (fun h => ?_) | refine W_block ?_ | refine endQ_ret ?_ | refine endQ_normal ?_)
      | ((with_reducible first | refine hK _ ?_ | refine hK _ _ ?_); clear hK K)
      | ((first | (with_reducible first | refine ops_cons (fun K hK => ?_) | refine opsd_cons (fun K hK => ?_) | refine ops_nil ?_ | refine fit_i64 (by omega) ?_ | refine fit_u8 (by omega) ?_ | refine fit_u64 (by omega) ?_ | refine fit_u32 (by omega) ?_ | refine fit_any ?_ | refine quo_nn (by omega) ?_ | refine rem_nn (by omega) ?_ | refine quo_any ?_ | refine rem_any ?_) | ((with_reducible refine opsd_nil ?_); refine And.intro (by kernel_rfl) ?_) | with_reducible refine callV_snap ?_ | ((with_reducible refine call_go ModS Mod_ok ?_); refine ⟨(by first | exact alOk_nil _ | exact alOk_f rfl), _, _, Mod_at n 16777216 (by decide) (by decide), ?_⟩) | ((with_reducible refine call_go UnmFS UnmF_ok ?_); refine ⟨(by first | exact alOk_nil _ | exact alOk_f rfl), _, _, UnmF_at , ?_⟩) | (with_reducible first | refine W_reg lv40FlBC ?_ | refine W_drw lv40FlBC (by kernel_rfl) ?_ | refine W_skip ?_ | refine W_ret ?_ | refine end_at0 ?_) | (with_reducible refine And.intro (fun h => ?_) (fun h => ?_)) | (with_reducible refine And.intro (by omega) ?_)); (try simp only [go_sem, seval, reduceCtorEq, hm, hm8, w1, w2, w3, lv40FlBC, Try.ntmps40, Try.results40, stp2S]))
      | fail)
  · rw [if_neg (by decide)]
    dsimp only
    repeat' (first
      | (with_reducible first | refine W_seq ?_ | refine W_condT rfl ?_ | refine W_condF rfl ?_ | refine W_tf rfl (fun h => ?_) (fun h => ?_) | refine W_block ?_ | refine endQ_ret ?_ | refine endQ_normal ?_)
      | ((with_reducible first | refine hK _ ?_ | refine hK _ _ ?_); clear hK K)
      | ((first | (with_reducible first | refine ops_cons (fun K hK => ?_) | refine opsd_cons (fun K hK => ?_) | refine ops_nil ?_ | refine fit_i64 (by omega) ?_ | refine fit_u8 (by omega) ?_ | refine fit_u64 (by omega) ?_ | refine fit_u32 (by omega) ?_ | refine fit_any ?_ | refine quo_nn (by omega) ?_ | refine rem_nn (by omega) ?_ | refine quo_any ?_ | refine rem_any ?_) | ((with_reducible refine opsd_nil ?_); refine And.intro (by kernel_rfl) ?_) | with_reducible refine callV_snap ?_ | ((with_reducible refine call_go ModS Mod_ok ?_); refine ⟨(by first | exact alOk_nil _ | exact alOk_f rfl), _, _, Mod_at n 16777216 (by decide) (by decide), ?_⟩) | ((with_reducible refine call_go UnmFS UnmF_ok ?_); refine ⟨(by first | exact alOk_nil _ | exact alOk_f rfl), _, _, UnmF_at , ?_⟩) | (with_reducible first | refine W_reg lv40FlBC ?_ | refine W_drw lv40FlBC (by kernel_rfl) ?_ | refine W_skip ?_ | refine W_ret ?_ | refine end_at0 ?_) | (with_reducible refine And.intro (fun h => ?_) (fun h => ?_)) | (with_reducible refine And.intro (by omega) ?_)); (try simp only [go_sem, seval, reduceCtorEq, hm, hm8, w1, w2, w3, lv40FlBC, Try.ntmps40, Try.results40, stp2S]))
      | fail)
set_option maxHeartbeats 16000000 in
theorem stp3_ok : Ok Try.prog 40 stp3S := by
  refine fn_ok stp3S Try.func40 rfl rfl ?_
  rintro args ins res outs ⟨s, n, hV, r0, rfl, rfl, rfl, rfl⟩
  refine ⟨by simp [Try.ntmps40], fun w0 V Bo mu0 => ?_⟩
  have hlen := vl_len hV
  have la := hV.la
  have lm := hV.lm
  have hu := hV.u
  have hck := vl_chk hV
  have hoV := @op_val (numN n) s hV
  have hoE := @op_err (numN n) s hV
  obtain ⟨al, mp, cs⟩ := s
  dsimp only at hlen la lm hu hck
  have hm := m_num n
  have hml := num_lt n
  generalize numN n = m at *
  have hm0 : (0 : Int) ≤ (m : Int) := by omega
  obtain ⟨k, hk⟩ : ∃ k, m / 8 % 3 = k := ⟨_, rfl⟩
  obtain ⟨g, hg⟩ : ∃ g, m / 24 % 6 = g := ⟨_, rfl⟩
  have hk8 : k < 8 := by omega
  have w1 : (m : Int) / 8 % 3 = (k : Int) := by omega
  have w2 : (m : Int) / 24 % 6 = (g : Int) := by omega
  have w3 : (1 : Int) + (k : Int) = (k : Int) + 1 := by omega
  have tail : ∀ (r : FSt × Int), opOf m (al, mp, cs) = r → aft (opOf m) (al, mp, cs) = if r.2 = 0 then r.1 else (al, mp, cs) := fun r hr => by unfold aft; rw [hr]
  obtain ⟨c, hc⟩ : ∃ c, m / 144 % 3 = c := ⟨_, rfl⟩
  have w4 : (m : Int) / 144 % 3 = (c : Int) := by omega
  have w5 : (1 : Int) + (c : Int) = (c : Int) + 1 := by omega
  have hop : opOf m = oFk k c := by unfold opOf; rw [if_neg (by omega), if_neg (by omega), if_neg (by omega), if_pos r0, hk, hc]
  have hm8 : (m : Int) % 8 = 3 := by omega
  have W0 := FrkF_at al mp cs ((k : Int) + 1) ((c : Int) + 1) hu (by omega) (by omega) (by omega)
  rw [hop] at hoV hoE
  have ht := fun r (e : oFk k c (al, mp, cs) = r) => tail r (by rw [hop]; exact e)
  have hR : oFk k c (al, mp, cs) = frkF al mp cs ((k : Int) + 1) ((c : Int) + 1) := rfl
  rw [hR] at hoV hoE ht
  generalize frkF al mp cs ((k : Int) + 1) ((c : Int) + 1) = R at *
  rw [ht R rfl]
  obtain ⟨⟨A, M, C⟩, e⟩ := R
  dsimp only at hoV hoE ⊢
  have FrkF_at : FrkFS.rel [fm al mp cs, iv ((k : Int) + 1), iv ((c : Int) + 1)] [] (.tup [fm A M C, iv e]) [] := W0
  rcases hoE with rfl | rfl | rfl | rfl | rfl | rfl
  · have hV2 := hoV rfl
    have l2 := vl_len hV2
    have la2 := hV2.la
    have lm2 := hV2.lm
    have C0 := Ck_at A M C hV2.u (by dsimp only at la2; omega) (by dsimp only at lm2; omega) (by dsimp only at l2; omega)
    rw [vl_chk hV2] at C0
    have Ck_at : CkS.rel [fm A M C] [] (iv 0) [] := C0
    rw [if_pos rfl]
    dsimp only
    repeat' (first
      | (with_reducible first | refine W_seq ?_ | refine W_condT rfl ?_ | refine W_condF rfl ?_ | refine W_tf rfl (fun h => ?_) (fun h => ?_) | refine W_block ?_ | refine endQ_ret ?_ | refine endQ_normal ?_)
      | ((with_reducible first | refine hK _ ?_ | refine hK _ _ ?_); clear hK K)
      | ((first | (with_reducible first | refine ops_cons (fun K hK => ?_) | refine opsd_cons (fun K hK => ?_) | refine ops_nil ?_ | refine fit_i64 (by omega) ?_ | refine fit_u8 (by omega) ?_ | refine fit_u64 (by omega) ?_ | refine fit_u32 (by omega) ?_ | refine fit_any ?_ | refine quo_nn (by omega) ?_ | refine rem_nn (by omega) ?_ | refine quo_any ?_ | refine rem_any ?_) | ((with_reducible refine opsd_nil ?_); refine And.intro (by kernel_rfl) ?_) | with_reducible refine callV_snap ?_ | ((with_reducible refine call_go ModS Mod_ok ?_); refine ⟨(by first | exact alOk_nil _ | exact alOk_f rfl), _, _, Mod_at n 16777216 (by decide) (by decide), ?_⟩) | ((with_reducible refine call_go FrkFS FrkF_ok ?_); refine ⟨(by first | exact alOk_nil _ | exact alOk_f rfl), _, _, FrkF_at , ?_⟩) | ((with_reducible refine call_go CkS Ck_ok ?_); refine ⟨(by first | exact alOk_nil _ | exact alOk_f rfl), _, _, Ck_at , ?_⟩) | (with_reducible first | refine W_reg lv40FlBC ?_ | refine W_drw lv40FlBC (by kernel_rfl) ?_ | refine W_skip ?_ | refine W_ret ?_ | refine end_at0 ?_) | (with_reducible refine And.intro (fun h => ?_) (fun h => ?_)) | (with_reducible refine And.intro (by omega) ?_)); (try simp only [go_sem, seval, reduceCtorEq, hm, hm8, w1, w2, w3, w4, w5, lv40FlBC, Try.ntmps40, Try.results40, stp3S]))
      | fail)
  · rw [if_neg (by decide)]
    dsimp only
    repeat' (first
      | (with_reducible first | refine W_seq ?_ | refine W_condT rfl ?_ | refine W_condF rfl ?_ | refine W_tf rfl (fun h => ?_) (fun h => ?_) | refine W_block ?_ | refine endQ_ret ?_ | refine endQ_normal ?_)
      | ((with_reducible first | refine hK _ ?_ | refine hK _ _ ?_); clear hK K)
      | ((first | (with_reducible first | refine ops_cons (fun K hK => ?_) | refine opsd_cons (fun K hK => ?_) | refine ops_nil ?_ | refine fit_i64 (by omega) ?_ | refine fit_u8 (by omega) ?_ | refine fit_u64 (by omega) ?_ | refine fit_u32 (by omega) ?_ | refine fit_any ?_ | refine quo_nn (by omega) ?_ | refine rem_nn (by omega) ?_ | refine quo_any ?_ | refine rem_any ?_) | ((with_reducible refine opsd_nil ?_); refine And.intro (by kernel_rfl) ?_) | with_reducible refine callV_snap ?_ | ((with_reducible refine call_go ModS Mod_ok ?_); refine ⟨(by first | exact alOk_nil _ | exact alOk_f rfl), _, _, Mod_at n 16777216 (by decide) (by decide), ?_⟩) | ((with_reducible refine call_go FrkFS FrkF_ok ?_); refine ⟨(by first | exact alOk_nil _ | exact alOk_f rfl), _, _, FrkF_at , ?_⟩) | (with_reducible first | refine W_reg lv40FlBC ?_ | refine W_drw lv40FlBC (by kernel_rfl) ?_ | refine W_skip ?_ | refine W_ret ?_ | refine end_at0 ?_) | (with_reducible refine And.intro (fun h => ?_) (fun h => ?_)) | (with_reducible refine And.intro (by omega) ?_)); (try simp only [go_sem, seval, reduceCtorEq, hm, hm8, w1, w2, w3, w4, w5, lv40FlBC, Try.ntmps40, Try.results40, stp3S]))
      | fail)
  · rw [if_neg (by decide)]
    dsimp only
    repeat' (first
      | (with_reducible first | refine W_seq ?_ | refine W_condT rfl ?_ | refine W_condF rfl ?_ | refine W_tf rfl (fun h => ?_) (fun h => ?_) | refine W_block ?_ | refine endQ_ret ?_ | refine endQ_normal ?_)
      | ((with_reducible first | refine hK _ ?_ | refine hK _ _ ?_); clear hK K)
      | ((first | (with_reducible first | refine ops_cons (fun K hK => ?_) | refine opsd_cons (fun K hK => ?_) | refine ops_nil ?_ | refine fit_i64 (by omega) ?_ | refine fit_u8 (by omega) ?_ | refine fit_u64 (by omega) ?_ | refine fit_u32 (by omega) ?_ | refine fit_any ?_ | refine quo_nn (by omega) ?_ | refine rem_nn (by omega) ?_ | refine quo_any ?_ | refine rem_any ?_) | ((with_reducible refine opsd_nil ?_); refine And.intro (by kernel_rfl) ?_) | with_reducible refine callV_snap ?_ | ((with_reducible refine call_go ModS Mod_ok ?_); refine ⟨(by first | exact alOk_nil _ | exact alOk_f rfl), _, _, Mod_at n 16777216 (by decide) (by decide), ?_⟩) | ((with_reducible refine call_go FrkFS FrkF_ok ?_); refine ⟨(by first | exact alOk_nil _ | exact alOk_f rfl), _, _, FrkF_at , ?_⟩) | (with_reducible first | refine W_reg lv40FlBC ?_ | refine W_drw lv40FlBC (by kernel_rfl) ?_ | refine W_skip ?_ | refine W_ret ?_ | refine end_at0 ?_) | (with_reducible refine And.intro (fun h => ?_) (fun h => ?_)) | (with_reducible refine And.intro (by omega) ?_)); (try simp only [go_sem, seval, reduceCtorEq, hm, hm8, w1, w2, w3, w4, w5, lv40FlBC, Try.ntmps40, Try.results40, stp3S]))
      | fail)
  · rw [if_neg (by decide)]
    dsimp only
    repeat' (first
      | (with_reducible first | refine W_seq ?_ | refine W_condT rfl ?_ | refine W_condF rfl ?_ | refine W_tf rfl (fun h => ?_) (fun h => ?_) | refine W_block ?_ | refine endQ_ret ?_ | refine endQ_normal ?_)
      | ((with_reducible first | refine hK _ ?_ | refine hK _ _ ?_); clear hK K)
      | ((first | (with_reducible first | refine ops_cons (fun K hK => ?_) | refine opsd_cons (fun K hK => ?_) | refine ops_nil ?_ | refine fit_i64 (by omega) ?_ | refine fit_u8 (by omega) ?_ | refine fit_u64 (by omega) ?_ | refine fit_u32 (by omega) ?_ | refine fit_any ?_ | refine quo_nn (by omega) ?_ | refine rem_nn (by omega) ?_ | refine quo_any ?_ | refine rem_any ?_) | ((with_reducible refine opsd_nil ?_); refine And.intro (by kernel_rfl) ?_) | with_reducible refine callV_snap ?_ | ((with_reducible refine call_go ModS Mod_ok ?_); refine ⟨(by first | exact alOk_nil _ | exact alOk_f rfl), _, _, Mod_at n 16777216 (by decide) (by decide), ?_⟩) | ((with_reducible refine call_go FrkFS FrkF_ok ?_); refine ⟨(by first | exact alOk_nil _ | exact alOk_f rfl), _, _, FrkF_at , ?_⟩) | (with_reducible first | refine W_reg lv40FlBC ?_ | refine W_drw lv40FlBC (by kernel_rfl) ?_ | refine W_skip ?_ | refine W_ret ?_ | refine end_at0 ?_) | (with_reducible refine And.intro (fun h => ?_) (fun h => ?_)) | (with_reducible refine And.intro (by omega) ?_)); (try simp only [go_sem, seval, reduceCtorEq, hm, hm8, w1, w2, w3, w4, w5, lv40FlBC, Try.ntmps40, Try.results40, stp3S]))
      | fail)
  · rw [if_neg (by decide)]
    dsimp only
    repeat' (first
      | (with_reducible first | refine W_seq ?_ | refine W_condT rfl ?_ | refine W_condF rfl ?_ | refine W_tf rfl (fun h => ?_) (fun h => ?_) | refine W_block ?_ | refine endQ_ret ?_ | refine endQ_normal ?_)
      | ((with_reducible first | refine hK _ ?_ | refine hK _ _ ?_); clear hK K)
      | ((first | (with_reducible first | refine ops_cons (fun K hK => ?_) | refine opsd_cons (fun K hK => ?_) | refine ops_nil ?_ | refine fit_i64 (by omega) ?_ | refine fit_u8 (by omega) ?_ | refine fit_u64 (by omega) ?_ | refine fit_u32 (by omega) ?_ | refine fit_any ?_ | refine quo_nn (by omega) ?_ | refine rem_nn (by omega) ?_ | refine quo_any ?_ | refine rem_any ?_) | ((with_reducible refine opsd_nil ?_); refine And.intro (by kernel_rfl) ?_) | with_reducible refine callV_snap ?_ | ((with_reducible refine call_go ModS Mod_ok ?_); refine ⟨(by first | exact alOk_nil _ | exact alOk_f rfl), _, _, Mod_at n 16777216 (by decide) (by decide), ?_⟩) | ((with_reducible refine call_go FrkFS FrkF_ok ?_); refine ⟨(by first | exact alOk_nil _ | exact alOk_f rfl), _, _, FrkF_at , ?_⟩) | (with_reducible first | refine W_reg lv40FlBC ?_ | refine W_drw lv40FlBC (by kernel_rfl) ?_ | refine W_skip ?_ | refine W_ret ?_ | refine end_at0 ?_) | (with_reducible refine And.intro (fun h => ?_) (fun h => ?_)) | (with_reducible refine And.intro (by omega) ?_)); (try simp only [go_sem, seval, reduceCtorEq, hm, hm8, w1, w2, w3, w4, w5, lv40FlBC, Try.ntmps40, Try.results40, stp3S]))
      | fail)
  · rw [if_neg (by decide)]
    dsimp only
    repeat' (first
      | (with_reducible first | refine W_seq ?_ | refine W_condT rfl ?_ | refine W_condF rfl ?_ | refine W_tf rfl (fun h => ?_) (fun h => ?_) | refine W_block ?_ | refine endQ_ret ?_ | refine endQ_normal ?_)
      | ((with_reducible first | refine hK _ ?_ | refine hK _ _ ?_); clear hK K)
      | ((first | (with_reducible first | refine ops_cons (fun K hK => ?_) | refine opsd_cons (fun K hK => ?_) | refine ops_nil ?_ | refine fit_i64 (by omega) ?_ | refine fit_u8 (by omega) ?_ | refine fit_u64 (by omega) ?_ | refine fit_u32 (by omega) ?_ | refine fit_any ?_ | refine quo_nn (by omega) ?_ | refine rem_nn (by omega) ?_ | refine quo_any ?_ | refine rem_any ?_) | ((with_reducible refine opsd_nil ?_); refine And.intro (by kernel_rfl) ?_) | with_reducible refine callV_snap ?_ | ((with_reducible refine call_go ModS Mod_ok ?_); refine ⟨(by first | exact alOk_nil _ | exact alOk_f rfl), _, _, Mod_at n 16777216 (by decide) (by decide), ?_⟩) | ((with_reducible refine call_go FrkFS FrkF_ok ?_); refine ⟨(by first | exact alOk_nil _ | exact alOk_f rfl), _, _, FrkF_at , ?_⟩) | (with_reducible first | refine W_reg lv40FlBC ?_ | refine W_drw lv40FlBC (by kernel_rfl) ?_ | refine W_skip ?_ | refine W_ret ?_ | refine end_at0 ?_) | (with_reducible refine And.intro (fun h => ?_) (fun h => ?_)) | (with_reducible refine And.intro (by omega) ?_)); (try simp only [go_sem, seval, reduceCtorEq, hm, hm8, w1, w2, w3, w4, w5, lv40FlBC, Try.ntmps40, Try.results40, stp3S]))
      | fail)
end Go.Proofs.Ytdfolpfibhfmlaa
