/- Outcomes made of numbers: Mod, Num, outcome. -/
import Derived.Test.YtnclclpfmldocaaGreatMdI
import Derived.Test.YtnclclpfmldocaaGreatMdQ
namespace Go.Proofs.YtnclclpfmldocaaGreat
open Go.RowKit
set_option maxRecDepth 100000
set_option linter.unusedSimpArgs false
set_option linter.unusedVariables false

abbrev lv10MdK : List (Nat × List Nat) := [(0, [1, 2, 3, 4, 8]), (1, [2, 3, 4, 8, 9]), (2, [2, 3, 4, 8, 9, 10]), (3, [2, 3, 4, 8, 9, 10, 11]), (4, [2, 3, 4, 8, 9, 10, 11, 12, 13]), (5, [2, 3, 4, 8, 9, 10, 11, 12, 13, 36]), (6, [8, 10]), (7, [2, 3, 4, 8, 9, 10, 11, 12, 13, 36, 38]), (8, [2, 3, 4, 8, 9, 10, 11, 12, 13, 36, 38]), (9, [8, 10]), (10, [2, 3, 4, 8, 9, 10, 11, 12, 13, 36, 50]), (11, [8, 10]), (12, [2, 3, 4, 8, 9, 10, 11, 12, 13, 36, 61]), (13, [2, 3, 4, 8, 9, 10, 11, 12, 13, 36, 61]), (14, [8, 10]), (15, [2, 3, 8, 9, 10, 11, 12, 13, 36, 74]), (16, [2, 3, 8, 9, 10, 11, 12, 13, 36, 74]), (17, [2, 3, 8, 9, 10, 11, 12, 13, 36, 74]), (18, [8, 10]), (19, [2, 3, 8, 9, 10, 11, 12, 13, 36, 81]), (20, [8, 10]), (21, [2, 3, 8, 9, 10, 11, 12, 13, 36, 88]), (22, [2, 3, 8, 9, 10, 11, 12, 13, 36, 88]), (23, [8, 10]), (24, [2, 3, 8, 9, 10, 11, 12, 13, 36, 103]), (25, [2, 3, 8, 9, 10, 11, 12, 13, 36, 103]), (26, [8, 10]), (27, [2, 3, 8, 9, 10, 11, 36, 118]), (28, [2, 3, 8, 9, 10, 11]), (29, [2, 8, 9, 10, 11, 124]), (30, [8, 10]), (31, [8, 10, 11, 141]), (32, [8, 10]), (33, [8])]
abbrev lv9MdK : List (Nat × List Nat) := [(0, [0, 1]), (1, [0, 1, 6]), (2, [4]), (3, [0, 1]), (4, [0, 1, 11]), (5, [0]), (6, [4])]
theorem tmod_neg (n k : Int) (hn : n < 0) (hk : 1 ≤ k) : n.tmod k ≤ 0 ∧ -k < n.tmod k ∧ (n.tmod k < 0 → n.tmod k + k = n % k) ∧ (0 ≤ n.tmod k → n.tmod k = n % k) := by
  obtain ⟨m, rfl⟩ : ∃ m : Int, n = -m := ⟨-n, by omega⟩
  have h0 : (-m).tmod k = -(m % k) := by rw [Int.neg_tmod, Int.tmod_eq_emod_of_nonneg (by omega)]
  have h1 := Int.emod_nonneg m (show k ≠ 0 by omega)
  have h2 := Int.emod_lt_of_pos m (show 0 < k by omega)
  rw [h0]
  refine ⟨by omega, by omega, fun h => ?_, fun h => ?_⟩
  · have h3 : -m = (k - m % k) + k * (-(m / k) - 1) := by
      have := Int.emod_add_mul_ediv m k
      rw [Int.mul_sub, Int.mul_neg, Int.mul_one]
      omega
    have h4 : (-m) % k = k - m % k := by
      have h5 : ((k - m % k) + k * (-(m / k) - 1)) % k = k - m % k := by
        rw [Int.add_mul_emod_self_left, Int.emod_eq_of_lt (by omega) (by omega)]
      rw [← h3] at h5
      exact h5
    omega
  · have h4 : m % k = 0 := by omega
    rw [h4]
    have : k ∣ m := Int.dvd_of_emod_eq_zero h4
    have h5 : k ∣ -m := (Int.dvd_neg).2 this
    rw [Int.emod_eq_zero_of_dvd h5]
    rfl

def ModS : Spec := { rel := fun args ins res outs => ∃ n k : Int, 1 ≤ k ∧ k ≤ 9223372036854775807 ∧ args = [iv n, iv k] ∧ ins = [] ∧ res = iv (n % k) ∧ outs = [] }
theorem Mod_at (n k : Int) (h1 : 1 ≤ k) (h2 : k ≤ 9223372036854775807) : ModS.rel [iv n, iv k] [] (iv (n % k)) [] := ⟨n, k, h1, h2, rfl, rfl, rfl, rfl⟩
theorem Mod_ok : Ok Tryz.prog 9 ModS := by
  refine fn_ok ModS Tryz.func9 rfl rfl ?_
  rintro args ins res outs ⟨n, k, hk, hk2, rfl, rfl, rfl, rfl⟩
  refine ⟨by simp [Tryz.ntmps9], fun w0 V Bo mu0 => ?_⟩
  have d1 : ¬ k < 1 := by omega
  by_cases hn : 0 ≤ n
  · have h1 := Int.emod_nonneg n (show k ≠ 0 by omega)
    have h2 : ¬ n % k < 0 := by omega
    repeat' (first
      | (with_reducible first | refine W_seq ?_ | refine W_condT rfl ?_ | refine W_condF rfl ?_ | refine W_tf rfl (fun h => ?_) (fun h => ?_) | refine endQ_ret ?_ | refine endQ_normal ?_)
      | ((with_reducible first | refine hK _ ?_ | refine hK _ _ ?_); clear hK K)
      | ((first | (with_reducible first | refine ops_cons (fun K hK => ?_) | refine ops_nil ?_ | refine fit_i64 (by omega) ?_ | refine fit_any ?_ | refine rem_nn (by omega) ?_ | refine rem_any ?_) | (with_reducible first | refine W_reg lv9MdK ?_ | refine W_skip ?_ | refine W_ret ?_ | refine end_at0 ?_) | (with_reducible refine And.intro (fun h => ?_) (fun h => ?_)) | (with_reducible refine And.intro (by omega) ?_)); (try simp only [go_sem, seval, reduceCtorEq, d1, h2, lv9MdK, Tryz.ntmps9, Tryz.results9, ModS]))
      | fail)
  · obtain ⟨h1, h2, h3, h4⟩ := tmod_neg n k (by omega) hk
    generalize hr : n.tmod k = r at *
    by_cases hz : r < 0
    · have h5 := h3 hz
      repeat' (first
        | (with_reducible first | refine W_seq ?_ | refine W_condT rfl ?_ | refine W_condF rfl ?_ | refine W_tf rfl (fun h => ?_) (fun h => ?_) | refine endQ_ret ?_ | refine endQ_normal ?_)
        | ((with_reducible first | refine hK _ ?_ | refine hK _ _ ?_); clear hK K)
        | ((first | (with_reducible first | refine ops_cons (fun K hK => ?_) | refine ops_nil ?_ | refine fit_i64 (by omega) ?_ | refine fit_any ?_ | refine rem_nn (by omega) ?_ | refine rem_any ?_) | (with_reducible first | refine W_reg lv9MdK ?_ | refine W_skip ?_ | refine W_ret ?_ | refine end_at0 ?_) | (with_reducible refine And.intro (fun h => ?_) (fun h => ?_)) | (with_reducible refine And.intro (by omega) ?_)); (try simp only [go_sem, seval, reduceCtorEq, d1, hr, hz, h5, lv9MdK, Tryz.ntmps9, Tryz.results9, ModS]))
        | fail)
    · have h5 := h4 (by omega)
      rw [← h5]
      repeat' (first
        | (with_reducible first | refine W_seq ?_ | refine W_condT rfl ?_ | refine W_condF rfl ?_ | refine W_tf rfl (fun h => ?_) (fun h => ?_) | refine endQ_ret ?_ | refine endQ_normal ?_)
        | ((with_reducible first | refine hK _ ?_ | refine hK _ _ ?_); clear hK K)
        | ((first | (with_reducible first | refine ops_cons (fun K hK => ?_) | refine ops_nil ?_ | refine fit_i64 (by omega) ?_ | refine fit_any ?_ | refine rem_nn (by omega) ?_ | refine rem_any ?_) | (with_reducible first | refine W_reg lv9MdK ?_ | refine W_skip ?_ | refine W_ret ?_ | refine end_at0 ?_) | (with_reducible refine And.intro (fun h => ?_) (fun h => ?_)) | (with_reducible refine And.intro (by omega) ?_)); (try simp only [go_sem, seval, reduceCtorEq, d1, hr, hz, lv9MdK, Tryz.ntmps9, Tryz.results9, ModS]))
        | fail)
theorem m_numM (n : Int) : n % 68719476736 = ((numM n : Nat) : Int) := by unfold numM; omega
theorem numM_lt (n : Int) : numM n < 68719476736 := by unfold numM; omega
def NumS : Spec := { rel := fun args ins res outs => ∃ (W : List Nat) (i : Nat), W.length ≤ 1000000 ∧ args = [.d (.sl (W.map encU)), iv (i : Int)] ∧ ins = [] ∧ res = wv ((W[i]?.getD 0 : Nat) : Int) ∧ outs = [] }
theorem Num_at (W : List Nat) (i : Nat) (h : W.length ≤ 1000000) {w : Nat} (hw : W[i]?.getD 0 = w) : NumS.rel [.d (.sl (W.map encU)), iv (i : Int)] [] (wv (w : Int)) [] := ⟨W, i, h, rfl, rfl, by rw [hw], rfl⟩
theorem Num_ok : Ok Tryz.prog 24 NumS := by
  refine fn_ok NumS Tryz.func24 rfl rfl ?_
  rintro args ins res outs ⟨W, i, hl, rfl, rfl, rfl, rfl⟩
  refine ⟨by simp [Tryz.ntmps24], fun w0 V Bo mu0 => ?_⟩
  have h0 : ¬ (i : Int) < 0 := by omega
  by_cases hlt : i < W.length
  · have hki : ¬ (W.length : Int) ≤ (i : Int) := by omega
    have e0 : encU W[i] = [.int .u64 (W[i] : Int)] := rfl
    have e2 : W[i]?.getD 0 = W[i] := by simp [hlt]
    rw [e2]
    repeat' (first
      | (with_reducible first | refine W_seq ?_ | refine W_condT rfl ?_ | refine W_condF rfl ?_ | refine W_tf rfl (fun h => ?_) (fun h => ?_) | refine endQ_ret ?_ | refine endQ_normal ?_)
      | ((with_reducible first | refine hK _ ?_ | refine hK _ _ ?_); clear hK K)
      | ((first | (with_reducible first | refine ops_cons (fun K hK => ?_) | refine ops_nil ?_) | with_reducible refine callV_snap ?_ | (with_reducible first | refine idx_map (by omega) ?_ | refine W_reg [(0, [0, 1]), (1, [0, 1, 12]), (2, [4]), (3, [4])] ?_ | refine W_skip ?_ | refine W_ret ?_ | refine end_at0 ?_) | (with_reducible refine And.intro (fun h => ?_) (fun h => ?_)) | (with_reducible refine And.intro (by omega) ?_)); (try simp only [go_sem, seval, reduceCtorEq, h0, hki, e0, Tryz.ntmps24, Tryz.results24, NumS]))
      | fail)
  · have hki : (W.length : Int) ≤ (i : Int) := by omega
    have e2 : W[i]?.getD 0 = 0 := by rw [List.getElem?_eq_none (by omega)]; rfl
    rw [e2]
    repeat' (first
      | (with_reducible first | refine W_seq ?_ | refine W_condT rfl ?_ | refine W_condF rfl ?_ | refine W_tf rfl (fun h => ?_) (fun h => ?_) | refine endQ_ret ?_ | refine endQ_normal ?_)
      | ((with_reducible first | refine hK _ ?_ | refine hK _ _ ?_); clear hK K)
      | ((first | (with_reducible first | refine ops_cons (fun K hK => ?_) | refine ops_nil ?_) | with_reducible refine callV_snap ?_ | (with_reducible first | refine idx_map (by omega) ?_ | refine W_reg [(0, [0, 1]), (1, [0, 1, 12]), (2, [4]), (3, [4])] ?_ | refine W_skip ?_ | refine W_ret ?_ | refine end_at0 ?_) | (with_reducible refine And.intro (fun h => ?_) (fun h => ?_)) | (with_reducible refine And.intro (by omega) ?_)); (try simp only [go_sem, seval, reduceCtorEq, h0, hki, Tryz.ntmps24, Tryz.results24, NumS]))
      | fail)
theorem outc1 {s : Sy} {k b : Nat} (f : Bool) (h : k % 16 = 0 ∨ k % 16 = 1) : outc s k b f = ⟨1, ((b + 1 + k / 16 % 4 : Nat) : Int), ((k / 64 % 6 + k / 512 % 4 : Nat) : Int), ((k / 64 % 6 : Nat) : Int), 0, 0, 0⟩ := by
  unfold outc
  rw [if_pos h]
theorem outc2 {s : Sy} {k b : Nat} (f : Bool) (h : k % 16 = 2) : outc s k b f = ⟨2, ((b + 1 + k / 16 % 4 : Nat) : Int), ((k / 64 % 6 + k / 512 % 2 : Nat) : Int), ((k / 64 % 6 : Nat) : Int), 0, 0, 0⟩ := by
  unfold outc
  rw [if_neg (by omega), if_pos h]
theorem outc9 {s : Sy} {k b : Nat} (f : Bool) (h : k % 16 = 3 ∨ k % 16 = 4) : outc s k b f = ⟨9, ((b + 1 + k / 16 % 4 : Nat) : Int), 0, 0, 0, s.L + 1 + k / 64 % 3, 0⟩ := by
  unfold outc
  rw [if_neg (by omega), if_neg (by omega), if_pos h]
theorem outc6 {s : Sy} {k b : Nat} (f : Bool) (h : k % 16 = 5 ∨ k % 16 = 6 ∨ k % 16 = 7) : outc s k b f = ⟨6, ((b + 1 + k / 16 % 4 : Nat) : Int), 0, 0, 0, s.W[b + k / 16 % 4]?.getD 0, 0⟩ := by
  unfold outc
  rw [if_neg (by omega), if_neg (by omega), if_neg (by omega), if_pos h]
theorem outc8 {s : Sy} {k b : Nat} (f : Bool) (h : k % 16 = 8) : outc s k b f = ⟨8, ((b + 1 + k / 16 % 4 : Nat) : Int), 0, ((k / 64 % 6 : Nat) : Int), ((k / 512 % 3 : Nat) : Int), 0, 0⟩ := by
  unfold outc
  rw [if_neg (by omega), if_neg (by omega), if_neg (by omega), if_neg (by omega), if_pos h]
theorem outc4 {s : Sy} {k b : Nat} (f : Bool) (h : k % 16 = 9 ∨ k % 16 = 10) : outc s k b f = ⟨4, ((b + 1 + k / 16 % 4 : Nat) : Int), 0, ((k / 64 % 6 : Nat) : Int), ((k / 512 % 3 : Nat) : Int), s.W[b + k / 16 % 4]?.getD 0, k / 64 % 5⟩ := by
  unfold outc
  rw [if_neg (by omega), if_neg (by omega), if_neg (by omega), if_neg (by omega), if_neg (by omega), if_pos h]
theorem outc3 {s : Sy} {k b : Nat} (f : Bool) (h : k % 16 = 11 ∨ k % 16 = 12) : outc s k b f = ⟨3, ((b + 1 + k / 16 % 4 : Nat) : Int), 0, ((k / 64 % 6 : Nat) : Int), ((k / 512 % 3 : Nat) : Int), s.W[b + k / 16 % 4]?.getD 0, k / 4096 % 5⟩ := by
  unfold outc
  rw [if_neg (by omega), if_neg (by omega), if_neg (by omega), if_neg (by omega), if_neg (by omega), if_neg (by omega), if_pos h]
theorem outc5 {s : Sy} {k b : Nat} (h : k % 16 = 13) : outc s k b true = ⟨5, ((b + 1 + k / 16 % 4 : Nat) : Int), ((b + 1 + (1 + k / 16 % 4 + k / 64 % 3) % 4 : Nat) : Int), 0, 0, s.W[b + k / 16 % 4]?.getD 0, 0⟩ := by
  unfold outc
  rw [if_neg (by omega), if_neg (by omega), if_neg (by omega), if_neg (by omega), if_neg (by omega), if_neg (by omega), if_neg (by omega), if_pos h, if_pos rfl]
theorem outc11 {s : Sy} {k b : Nat} (h : k % 16 = 13) : outc s k b false = ⟨11, ((b + 1 + k / 16 % 4 : Nat) : Int), 0, 0, 0, s.W[b + k / 16 % 4]?.getD 0, 7⟩ := by
  unfold outc
  rw [if_neg (by omega), if_neg (by omega), if_neg (by omega), if_neg (by omega), if_neg (by omega), if_neg (by omega), if_neg (by omega), if_pos h, if_neg (show ¬ (false = true) by decide)]
theorem outc10 {s : Sy} {k b : Nat} (f : Bool) (h : k % 16 = 14) : outc s k b f = ⟨10, ((b + 1 + k / 16 % 4 : Nat) : Int), 0, 0, 0, s.W[b + k / 16 % 4]?.getD 0, 0⟩ := by
  unfold outc
  rw [if_neg (by omega), if_neg (by omega), if_neg (by omega), if_neg (by omega), if_neg (by omega), if_neg (by omega), if_neg (by omega), if_neg (by omega), if_pos h]
theorem outc7 {s : Sy} {k b : Nat} (f : Bool) (h : k % 16 = 15) : outc s k b f = ⟨7, ((b + 1 + k / 16 % 4 : Nat) : Int), 0, 0, 0, 0, 0⟩ := by
  unfold outc
  rw [if_neg (by omega), if_neg (by omega), if_neg (by omega), if_neg (by omega), if_neg (by omega), if_neg (by omega), if_neg (by omega), if_neg (by omega), if_neg (by omega)]
theorem dv1 (m : Nat) : (m : Int) / 16 % 4 = ((m / 16 % 4 : Nat) : Int) := by omega
theorem dv2 (m : Nat) : (m : Int) / 64 % 3 = ((m / 64 % 3 : Nat) : Int) := by omega
theorem oc_eq {k p o g w t v k' p' o' g' w' t' v' : Int} (h1 : k = k') (h2 : p = p') (h3 : o = o') (h4 : g = g') (h5 : w = w') (h6 : t = t') (h7 : v = v') : AV.agg [iv k, iv p, iv o, iv g, iv w, wv t, wv v] = .agg [iv k', iv p', iv o', iv g', iv w', wv t', wv v'] := by rw [h1, h2, h3, h4, h5, h6, h7]
def outcS : Spec := { rel := fun args ins res outs => ∃ (s : Sy) (n : Int) (b : Nat) (f : Bool), s.W.length ≤ 1000000 ∧ s.L ≤ mxT ∧ b ≤ 4 ∧ args = [syA s, iv n, iv (b : Int), bv f] ∧ ins = [] ∧ res = ocA (outc s (numM n) b f) ∧ outs = [] }
theorem outc_at (s : Sy) (n : Int) (b : Nat) (f : Bool) (h1 : s.W.length ≤ 1000000) (h2 : s.L ≤ mxT) (h3 : b ≤ 4) : outcS.rel [syA s, iv n, iv (b : Int), bv f] [] (ocA (outc s (numM n) b f)) [] := ⟨s, n, b, f, h1, h2, h3, rfl, rfl, rfl, rfl⟩
set_option maxHeartbeats 8000000 in
theorem outc_ok : Ok Tryz.prog 10 outcS := by
  refine fn_ok outcS Tryz.func10 rfl rfl ?_
  rintro args ins res outs ⟨s, n, b, f, h1, h2, h3, rfl, rfl, rfl, rfl⟩
  refine ⟨by simp [Tryz.ntmps10], fun w0 V Bo mu0 => ?_⟩
  have hm := m_numM n
  have hml := numM_lt n
  have hL : s.L ≤ 1099511627776 := h2
  generalize numM n = m at *
  obtain ⟨q, hq⟩ : ∃ k, b + m / 16 % 4 = k := ⟨_, rfl⟩
  obtain ⟨w, hw⟩ : ∃ k, s.W[b + m / 16 % 4]?.getD 0 = k := ⟨_, rfl⟩
  have Num_at := Num_at s.W q h1 (by subst hq; exact hw)
  have z2 : (b : Int) + 1 + (m : Int) / 16 % 4 - 1 = (q : Int) := by omega
  have hm0 : (0 : Int) ≤ (m : Int) := by omega
  obtain ⟨r, hr⟩ : ∃ r : Int, (m : Int) % 16 = r := ⟨_, rfl⟩
  clear hq
  cases f
  all_goals
    repeat' (first
      | (with_reducible first | refine W_seq ?_ | refine W_condT rfl ?_ | refine W_condF rfl ?_ | refine W_tf rfl (fun h => ?_) (fun h => ?_) | refine W_block ?_ | refine endQ_ret ?_ | refine endQ_normal ?_)
      | ((with_reducible first | refine hK _ ?_ | refine hK _ _ ?_); clear hK K)
      | ((first | (with_reducible first | refine ops_cons (fun K hK => ?_) | refine opsd_cons (fun K hK => ?_) | refine ops_nil ?_ | refine fit_i64 (by omega) ?_ | refine fit_u8 (by omega) ?_ | refine fit_u64 (by omega) ?_ | refine fit_u32 (by omega) ?_ | refine fit_any ?_ | refine quo_nn (by omega) ?_ | refine rem_nn (by omega) ?_ | refine quo_any ?_ | refine rem_any ?_) | ((with_reducible refine opsd_nil ?_); refine And.intro (by kernel_rfl) ?_) | with_reducible refine callV_snap ?_ | ((with_reducible refine call_go ModS Mod_ok ?_); refine ⟨(by first | exact alOk_nil _ | exact alOk_f rfl), _, _, Mod_at n 68719476736 (by decide) (by decide), ?_⟩) | ((with_reducible refine call_go NumS Num_ok ?_); refine ⟨(by first | exact alOk_nil _ | exact alOk_f rfl), _, _, Num_at , ?_⟩) | (with_reducible first | refine W_reg lv10MdK ?_ | refine W_drw lv10MdK (by kernel_rfl) ?_ | refine W_skip ?_ | refine W_ret ?_ | refine end_at0 ?_) | (with_reducible refine And.intro (fun h => ?_) (fun h => ?_)) | (with_reducible refine And.intro (by omega) ?_)); (try simp only [go_sem, seval, reduceCtorEq, hm, hr, z2, lv10MdK, Tryz.ntmps10, Tryz.results10, outcS]))
      | fail)
  all_goals first | rw [outc1 _ (show m % 16 = 0 ∨ m % 16 = 1 by omega)] | rw [outc2 _ (show m % 16 = 2 by omega)] | rw [outc9 _ (show m % 16 = 3 ∨ m % 16 = 4 by omega)] | rw [outc6 _ (show m % 16 = 5 ∨ m % 16 = 6 ∨ m % 16 = 7 by omega)] | rw [outc8 _ (show m % 16 = 8 by omega)] | rw [outc4 _ (show m % 16 = 9 ∨ m % 16 = 10 by omega)] | rw [outc3 _ (show m % 16 = 11 ∨ m % 16 = 12 by omega)] | rw [outc5 (show m % 16 = 13 by omega)] | rw [outc11 (show m % 16 = 13 by omega)] | rw [outc10 _ (show m % 16 = 14 by omega)] | rw [outc7 _ (show m % 16 = 15 by omega)]
  all_goals exact oc_eq (by dsimp only <;> omega) (by dsimp only; omega) (by dsimp only <;> first | omega | (simp only [dv1, dv2]; omega)) (by dsimp only <;> omega) (by dsimp only <;> omega) (by dsimp only <;> omega) (by dsimp only <;> omega)
end Go.Proofs.YtnclclpfmldocaaGreat
