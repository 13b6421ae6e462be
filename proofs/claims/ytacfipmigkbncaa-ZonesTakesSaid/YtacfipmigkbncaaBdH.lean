/- buddy.Check by the engine. -/
import Derived.Test.YtacfipmigkbncaaBdG
import Derived.Test.YtacfipmigkbncaaLib2
namespace Go.Proofs.Ytacfipmigkbncaa
open Go.RowKit
set_option maxRecDepth 100000
set_option linter.unusedSimpArgs false
set_option linter.unusedVariables false

abbrev lv50BdH : List (Nat × List Nat) := [(0, [1]), (1, [1, 16]), (2, [2, 3]), (3, [1, 18, 19, 20]), (4, [1, 18, 19, 20, 21]), (5, [1, 4, 5, 18, 19, 20]), (6, [1, 4, 5, 6, 7, 18, 19, 20]), (7, [1, 4, 5, 6, 18, 19, 20, 46]), (8, [2, 3]), (9, [1, 4, 5, 6, 18, 19, 20, 53]), (10, [2, 3]), (11, [1, 4, 5, 6, 18, 19, 20, 56]), (12, [1, 4, 5, 6, 8, 18, 19, 20]), (13, [1, 4, 5, 6, 8, 18, 19, 20, 67]), (14, [2, 3]), (15, [1, 4, 18, 19, 20, 82]), (16, [2, 3]), (17, [1, 18, 19, 20]), (18, [2, 3])]
theorem eqt_block : EqT Try.prog 87 [some .i64, some .i64] := by
  refine ⟨by kernel_rfl, fun xs ys w hx hy => ?_⟩
  obtain ⟨a, _, rfl, h1⟩ := kinds_int hx
  obtain ⟨b, _, rfl, h2⟩ := kinds_int h1
  obtain rfl := kinds_nil h2
  obtain ⟨a', _, rfl, h3⟩ := kinds_int hy
  obtain ⟨b', _, rfl, h4⟩ := kinds_int h3
  obtain rfl := kinds_nil h4
  clear h1 h2 h3 h4 hx hy
  have u3 := Try.underlying3
  have a3 := Try.isAgg3
  have hS : Try.prog.underlying 87 = some (.struct (Try.prog.fieldsOf 87)) := by kernel_rfl
  have hp : Try.prog.stoodInHeld 87 = false := by kernel_rfl
  rw [show (10000 : Nat) = 9999 + 1 from rfl, run_equalIn_agg w 9999 87 _ _ hS hp]
  simp only [Program.fieldsOf, Try.underlying87, valL]
  go_simp
  by_cases h1 : a = a' <;> by_cases h2 : b = b' <;> simp [eqL, h1, h2]

theorem half_even {a p : Int} (hp : 1 ≤ p) (h1 : a % p = 0) (h2 : (a + p) % (2 * p) ≠ 0) : a % (2 * p) = 0 := by
  obtain ⟨q, rfl⟩ := Int.dvd_of_emod_eq_zero h1
  have e1 : p * q + p = p * (q + 1) := by rw [Int.mul_add, Int.mul_one]
  have e2 : 2 * p = p * 2 := Int.mul_comm _ _
  rw [e1, e2, Int.mul_emod_mul_of_pos _ _ (by omega)] at h2
  rw [e2, Int.mul_emod_mul_of_pos _ _ (by omega)]
  have : q % 2 = 0 := by
    rcases Int.emod_two_eq q with h | h
    · exact h
    · exfalso; apply h2
      have : (q + 1) % 2 = 0 := by omega
      rw [this, Int.mul_zero]
  rw [this, Int.mul_zero]
theorem odd_up' {a p : Int} (hp : 1 ≤ p) (h1 : a % (2 * p) = 0) : (a + p) % (2 * p) ≠ 0 := by
  obtain ⟨q, rfl⟩ := Int.dvd_of_emod_eq_zero h1
  rw [Int.add_comm, Int.add_mul_emod_self_left, Int.emod_eq_of_lt (by omega) (by omega)]
  omega

def SizeS : Spec := { rel := fun args ins res outs => ∃ o : Int, args = [iv o] ∧ ins = [] ∧ res = (if o < 0 ∨ 6 < o then .tup [iv 0, iv 2] else .tup [iv (2 ^ o.toNat), iv 0]) ∧ outs = [] }
abbrev SizeBadS : Spec := SizeS
abbrev SizeOkS : Spec := SizeS
theorem SizeBad_at (o : Int) (h : o < 0 ∨ 6 < o) : SizeBadS.rel [iv o] [] (.tup [iv 0, iv 2]) [] := ⟨o, rfl, rfl, by rw [if_pos h], rfl⟩
theorem SizeOk_at (o : Int) (h : ¬ (o < 0 ∨ 6 < o)) : SizeOkS.rel [iv o] [] (.tup [iv (2 ^ o.toNat), iv 0]) [] := ⟨o, rfl, rfl, by rw [if_neg h], rfl⟩
theorem Size_ok : Ok Try.prog 73 SizeS := by
  refine fn_ok SizeS Try.func73 rfl rfl ?_
  rintro args ins res outs ⟨o, rfl, rfl, rfl, rfl⟩
  refine ⟨by simp [Try.ntmps73], fun w0 V Bo mu0 => ?_⟩
  by_cases h1 : o < 0
  · rw [if_pos (.inl h1)]
    repeat' (first
      | (with_reducible first | refine W_seq ?_ | refine W_condT rfl ?_ | refine W_condF rfl ?_ | refine W_tf rfl (fun h => ?_) (fun h => ?_) | refine endQ_ret ?_ | refine endQ_normal ?_)
      | ((with_reducible first | refine hK _ ?_ | refine hK _ _ ?_); clear hK K)
      | ((first | (with_reducible first | refine ops_cons (fun K hK => ?_) | refine ops_nil ?_ | refine fit_i64 (by omega) ?_ | refine fit_u8 (by omega) ?_ | refine fit_u64 (by omega) ?_ | refine fit_u32 (by omega) ?_ | refine fit_any ?_ | refine sh_in (by simp only [IntKind.bits]; omega) ?_) | (with_reducible first | refine W_reg [(0, [0]), (1, [0, 9]), (2, [2, 3]), (3, [2, 3])] ?_ | refine W_skip ?_ | refine W_ret ?_ | refine end_at0 ?_) | (with_reducible refine And.intro (fun h => ?_) (fun h => ?_)) | (with_reducible refine And.intro (by omega) ?_)); (try simp only [go_sem, seval, reduceCtorEq, h1, Try.ntmps73, Try.results73, SizeS]))
      | fail)
  · by_cases h2 : 6 < o
    · rw [if_pos (.inr h2)]
      repeat' (first
        | (with_reducible first | refine W_seq ?_ | refine W_condT rfl ?_ | refine W_condF rfl ?_ | refine W_tf rfl (fun h => ?_) (fun h => ?_) | refine endQ_ret ?_ | refine endQ_normal ?_)
        | ((with_reducible first | refine hK _ ?_ | refine hK _ _ ?_); clear hK K)
        | ((first | (with_reducible first | refine ops_cons (fun K hK => ?_) | refine ops_nil ?_ | refine fit_i64 (by omega) ?_ | refine fit_u8 (by omega) ?_ | refine fit_u64 (by omega) ?_ | refine fit_u32 (by omega) ?_ | refine fit_any ?_ | refine sh_in (by simp only [IntKind.bits]; omega) ?_) | (with_reducible first | refine W_reg [(0, [0]), (1, [0, 9]), (2, [2, 3]), (3, [2, 3])] ?_ | refine W_skip ?_ | refine W_ret ?_ | refine end_at0 ?_) | (with_reducible refine And.intro (fun h => ?_) (fun h => ?_)) | (with_reducible refine And.intro (by omega) ?_)); (try simp only [go_sem, seval, reduceCtorEq, h1, h2, Try.ntmps73, Try.results73, SizeS]))
        | fail)
    · rw [if_neg (by omega)]
      have hp := pow64 o (by omega) (by omega)
      repeat' (first
        | (with_reducible first | refine W_seq ?_ | refine W_condT rfl ?_ | refine W_condF rfl ?_ | refine W_tf rfl (fun h => ?_) (fun h => ?_) | refine endQ_ret ?_ | refine endQ_normal ?_)
        | ((with_reducible first | refine hK _ ?_ | refine hK _ _ ?_); clear hK K)
        | ((first | (with_reducible first | refine ops_cons (fun K hK => ?_) | refine ops_nil ?_ | refine fit_i64 (by omega) ?_ | refine fit_u8 (by omega) ?_ | refine fit_u64 (by omega) ?_ | refine fit_u32 (by omega) ?_ | refine fit_any ?_ | refine sh_in (by simp only [IntKind.bits]; omega) ?_) | (with_reducible first | refine W_reg [(0, [0]), (1, [0, 9]), (2, [2, 3]), (3, [2, 3])] ?_ | refine W_skip ?_ | refine W_ret ?_ | refine end_at0 ?_) | (with_reducible refine And.intro (fun h => ?_) (fun h => ?_)) | (with_reducible refine And.intro (by omega) ?_)); (try simp only [go_sem, seval, reduceCtorEq, h1, h2, Int.one_mul, Try.ntmps73, Try.results73, SizeS]))
        | fail)
theorem SizeBad_ok : Ok Try.prog 73 SizeBadS := Size_ok
theorem SizeOk_ok : Ok Try.prog 73 SizeOkS := Size_ok
def endS : Spec := { rel := fun args ins res outs => ∃ a o : Int, 0 ≤ o ∧ o ≤ 6 ∧ 0 ≤ a ∧ a ≤ 256 ∧ args = [.agg [iv a, iv o]] ∧ ins = [] ∧ res = iv (a + 2 ^ o.toNat) ∧ outs = [] }
theorem end_at' (a o : Int) (h0 : 0 ≤ o) (h1 : o ≤ 6) (a0 : 0 ≤ a) (a1 : a ≤ 256) : endS.rel [.agg [iv a, iv o]] [] (iv (a + 2 ^ o.toNat)) [] := ⟨a, o, h0, h1, a0, a1, rfl, rfl, rfl, rfl⟩
abbrev bendS : Spec := endS
theorem bend_at (a o : Int) (h0 : 0 ≤ o) (h1 : o ≤ 6) (a0 : 0 ≤ a) (a1 : a ≤ 256) : bendS.rel [.agg [iv a, iv o]] [] (iv (a + 2 ^ o.toNat)) [] := end_at' a o h0 h1 a0 a1
theorem bend_ok : Ok Try.prog 74 bendS := by
  refine fn_ok endS Try.func74 rfl rfl ?_
  rintro args ins res outs ⟨a, o, h0, h1, a0, a1, rfl, rfl, rfl, rfl⟩
  refine ⟨by simp [Try.ntmps74], fun w0 V Bo mu0 => ?_⟩
  have hp := pow64 o h0 h1
  repeat' (first
    | (with_reducible first | refine W_seq ?_ | refine endQ_ret ?_ | refine endQ_normal ?_)
    | ((with_reducible first | refine hK _ ?_ | refine hK _ _ ?_); clear hK K)
    | ((first | (with_reducible first | refine ops_cons (fun K hK => ?_) | refine ops_nil ?_ | refine fit_i64 (by omega) ?_ | refine fit_u8 (by omega) ?_ | refine fit_u64 (by omega) ?_ | refine fit_u32 (by omega) ?_ | refine fit_any ?_ | refine sh_in (by simp only [IntKind.bits]; omega) ?_) | (with_reducible first | refine W_reg [(0, [1]), (1, [2])] ?_ | refine W_ret ?_ | refine end_at0 ?_) | (with_reducible refine And.intro (fun h => ?_) (fun h => ?_)) | (with_reducible refine And.intro (by omega) ?_)); (try simp only [go_sem, seval, reduceCtorEq, Int.one_mul, Try.ntmps74, Try.results74, endS]))
    | fail)

def CheckS : Spec := { rel := fun args ins res outs => ∃ (n : Int) (l : List Bi), l.length ≤ 1000000 ∧ args = [zv n l] ∧ ins = [] ∧ res = .tup [iv (zchk n l).1, iv (zchk n l).2] ∧ outs = [] }
theorem Check_at (n : Int) (l : List Bi) (h : l.length ≤ 1000000) : CheckS.rel [zv n l] [] (.tup [iv (zchk n l).1, iv (zchk n l).2]) [] := ⟨n, l, h, rfl, rfl, rfl, rfl⟩
set_option maxHeartbeats 4000000 in
theorem Check_ok : Ok Try.prog 50 CheckS := by
  refine fn_ok CheckS Try.func50 rfl rfl ?_
  rintro args ins res outs ⟨n, l, hl, rfl, rfl, rfl, rfl⟩
  refine ⟨by simp [Try.ntmps50], fun w0 V Bo mu0 => ?_⟩
  by_cases n0 : n < 0
  · have e : zchk n l = (2, 0) := by unfold zchk; rw [if_pos (.inl n0)]
    rw [e]
    repeat' (first
      | (with_reducible first | refine W_seq ?_ | refine W_condT rfl ?_ | refine W_condF rfl ?_ | refine W_tf rfl (fun h => ?_) (fun h => ?_) | refine W_block ?_ | refine endQ_ret ?_ | refine endQ_normal ?_)
      | ((with_reducible first | refine hK _ ?_ | refine hK _ _ ?_); clear hK K)
      | ((first | (with_reducible first | refine ops_cons (fun K hK => ?_) | refine opsd_cons (fun K hK => ?_) | refine ops_nil ?_ | refine fit_i64 (by omega) ?_ | refine fit_any ?_) | ((with_reducible refine opsd_nil ?_); refine And.intro (by kernel_rfl) ?_) | with_reducible refine callV_snap ?_ | (with_reducible first | refine idx_map (by omega) ?_ | refine W_reg lv50BdH ?_ | refine W_drw lv50BdH (by kernel_rfl) ?_ | refine W_skip ?_ | refine W_exit ?_ | refine W_ret ?_ | refine end_at0 ?_) | (with_reducible refine And.intro (fun h => ?_) (fun h => ?_)) | (with_reducible refine And.intro (by omega) ?_)); (try simp only [go_sem, seval, reduceCtorEq, n0, lv50BdH, Try.ntmps50, Try.results50, CheckS]))
      | fail)
  by_cases n1 : 256 < n
  · have e : zchk n l = (2, 0) := by unfold zchk; rw [if_pos (.inr n1)]
    rw [e]
    repeat' (first
      | (with_reducible first | refine W_seq ?_ | refine W_condT rfl ?_ | refine W_condF rfl ?_ | refine W_tf rfl (fun h => ?_) (fun h => ?_) | refine W_block ?_ | refine endQ_ret ?_ | refine endQ_normal ?_)
      | ((with_reducible first | refine hK _ ?_ | refine hK _ _ ?_); clear hK K)
      | ((first | (with_reducible first | refine ops_cons (fun K hK => ?_) | refine opsd_cons (fun K hK => ?_) | refine ops_nil ?_ | refine fit_i64 (by omega) ?_ | refine fit_any ?_) | ((with_reducible refine opsd_nil ?_); refine And.intro (by kernel_rfl) ?_) | with_reducible refine callV_snap ?_ | (with_reducible first | refine idx_map (by omega) ?_ | refine W_reg lv50BdH ?_ | refine W_drw lv50BdH (by kernel_rfl) ?_ | refine W_skip ?_ | refine W_exit ?_ | refine W_ret ?_ | refine end_at0 ?_) | (with_reducible refine And.intro (fun h => ?_) (fun h => ?_)) | (with_reducible refine And.intro (by omega) ?_)); (try simp only [go_sem, seval, reduceCtorEq, n0, n1, lv50BdH, Try.ntmps50, Try.results50, CheckS]))
      | fail)
  have e : zchk n l = bgo n none 0 l := by unfold zchk; rw [if_neg (by omega)]
  rw [e]
  generalize hR : bgo n none 0 l = R
  repeat' (first
    | (with_reducible first | refine W_seq ?_ | refine W_condT rfl ?_ | refine W_condF rfl ?_ | refine W_tf rfl (fun h => ?_) (fun h => ?_) | refine W_block ?_ | refine endQ_ret ?_ | refine endQ_normal ?_)
    | ((with_reducible first | refine hK _ ?_ | refine hK _ _ ?_); clear hK K)
    | ((first | (with_reducible first | refine ops_cons (fun K hK => ?_) | refine opsd_cons (fun K hK => ?_) | refine ops_nil ?_ | refine fit_i64 (by omega) ?_ | refine fit_any ?_) | ((with_reducible refine opsd_nil ?_); refine And.intro (by kernel_rfl) ?_) | with_reducible refine callV_snap ?_ | (with_reducible first | refine idx_map (by omega) ?_ | refine W_reg lv50BdH ?_ | refine W_drw lv50BdH (by kernel_rfl) ?_ | refine W_skip ?_ | refine W_exit ?_ | refine W_ret ?_ | refine end_at0 ?_) | (with_reducible refine And.intro (fun h => ?_) (fun h => ?_)) | (with_reducible refine And.intro (by omega) ?_)); (try simp only [go_sem, seval, reduceCtorEq, n0, n1, lv50BdH, Try.ntmps50, Try.results50, CheckS]))
    | fail)
  refine W_loop (fun i : Nat => ⟨[(1, .ptr 0 0), (18, dK l), (19, iv l.length), (20, iv i)], [some (.box 59 [iv n, dK l])]⟩) (fun i => i ≤ l.length ∧ Pre n l i ∧ bgo n (prv l i) i (l.drop i) = R) (fun i => l.length - i) 0 ⟨Nat.zero_le _, Pre.zero n l, hR⟩ [0] ?_ ?_
  · simp [go_sem]
  clear hR e
  rintro i ⟨hi, hpre, hgo⟩
  by_cases hlt : i < l.length
  · have hki : (i : Int) < l.length := by omega
    rw [drop_get l i hlt] at hgo
    have hb0 : encBk l[i] = [.int .i64 (l[i]).1, .int .i64 (l[i]).2] := rfl
    by_cases h1 : (l[i]).2 < 0 ∨ 6 < (l[i]).2
    · rw [bgo_one (by rw [oneB_ord h1]; decide), oneB_ord h1] at hgo
      subst hgo
      repeat' (first
        | (with_reducible first | refine W_seq ?_ | refine W_condT rfl ?_ | refine W_condF rfl ?_ | refine W_tf rfl (fun h => ?_) (fun h => ?_) | refine W_block ?_ | refine endQ_ret ?_ | refine endQ_normal ?_)
        | ((with_reducible first | refine hK _ ?_ | refine hK _ _ ?_); clear hK K)
        | ((first | (with_reducible first | refine ops_cons (fun K hK => ?_) | refine opsd_cons (fun K hK => ?_) | refine ops_nil ?_ | refine fit_i64 (by omega) ?_ | refine fit_any ?_) | ((with_reducible refine opsd_nil ?_); refine And.intro (by kernel_rfl) ?_) | with_reducible refine callV_snap ?_ | ((with_reducible refine call_go SizeBadS SizeBad_ok ?_); refine ⟨(by first | exact alOk_nil _ | exact alOk_f rfl), _, _, SizeBad_at _ h1, ?_⟩) | (with_reducible first | refine idx_map (by omega) ?_ | refine W_reg lv50BdH ?_ | refine W_drw lv50BdH (by kernel_rfl) ?_ | refine W_skip ?_ | refine W_exit ?_ | refine W_ret ?_ | refine end_at0 ?_) | (with_reducible refine And.intro (fun h => ?_) (fun h => ?_)) | (with_reducible refine And.intro (by omega) ?_)); (try simp only [go_sem, seval, reduceCtorEq, hki, hb0, lv50BdH, Try.ntmps50, Try.results50, CheckS]))
        | fail)
    have hp := pow64 (l[i]).2 (by omega) (by omega)
    by_cases h2 : (l[i]).1 < 0
    · rw [bgo_one (by rw [oneB_rng h1 (.inl h2)]; decide), oneB_rng h1 (.inl h2)] at hgo
      subst hgo
      repeat' (first
        | (with_reducible first | refine W_seq ?_ | refine W_condT rfl ?_ | refine W_condF rfl ?_ | refine W_tf rfl (fun h => ?_) (fun h => ?_) | refine W_block ?_ | refine endQ_ret ?_ | refine endQ_normal ?_)
        | ((with_reducible first | refine hK _ ?_ | refine hK _ _ ?_); clear hK K)
        | ((first | (with_reducible first | refine ops_cons (fun K hK => ?_) | refine opsd_cons (fun K hK => ?_) | refine ops_nil ?_ | refine fit_i64 (by omega) ?_ | refine fit_any ?_) | ((with_reducible refine opsd_nil ?_); refine And.intro (by kernel_rfl) ?_) | with_reducible refine callV_snap ?_ | ((with_reducible refine call_go SizeOkS SizeOk_ok ?_); refine ⟨(by first | exact alOk_nil _ | exact alOk_f rfl), _, _, SizeOk_at _ h1, ?_⟩) | (with_reducible first | refine idx_map (by omega) ?_ | refine W_reg lv50BdH ?_ | refine W_drw lv50BdH (by kernel_rfl) ?_ | refine W_skip ?_ | refine W_exit ?_ | refine W_ret ?_ | refine end_at0 ?_) | (with_reducible refine And.intro (fun h => ?_) (fun h => ?_)) | (with_reducible refine And.intro (by omega) ?_)); (try simp only [go_sem, seval, reduceCtorEq, hki, hb0, h2, lv50BdH, Try.ntmps50, Try.results50, CheckS]))
        | fail)
    by_cases h3 : n - 2 ^ (l[i]).2.toNat < (l[i]).1
    · rw [bgo_one (by rw [oneB_rng h1 (.inr h3)]; decide), oneB_rng h1 (.inr h3)] at hgo
      subst hgo
      repeat' (first
        | (with_reducible first | refine W_seq ?_ | refine W_condT rfl ?_ | refine W_condF rfl ?_ | refine W_tf rfl (fun h => ?_) (fun h => ?_) | refine W_block ?_ | refine endQ_ret ?_ | refine endQ_normal ?_)
        | ((with_reducible first | refine hK _ ?_ | refine hK _ _ ?_); clear hK K)
        | ((first | (with_reducible first | refine ops_cons (fun K hK => ?_) | refine opsd_cons (fun K hK => ?_) | refine ops_nil ?_ | refine fit_i64 (by omega) ?_ | refine fit_any ?_) | ((with_reducible refine opsd_nil ?_); refine And.intro (by kernel_rfl) ?_) | with_reducible refine callV_snap ?_ | ((with_reducible refine call_go SizeOkS SizeOk_ok ?_); refine ⟨(by first | exact alOk_nil _ | exact alOk_f rfl), _, _, SizeOk_at _ h1, ?_⟩) | (with_reducible first | refine idx_map (by omega) ?_ | refine W_reg lv50BdH ?_ | refine W_drw lv50BdH (by kernel_rfl) ?_ | refine W_skip ?_ | refine W_exit ?_ | refine W_ret ?_ | refine end_at0 ?_) | (with_reducible refine And.intro (fun h => ?_) (fun h => ?_)) | (with_reducible refine And.intro (by omega) ?_)); (try simp only [go_sem, seval, reduceCtorEq, hki, hb0, h2, h3, lv50BdH, Try.ntmps50, Try.results50, CheckS]))
        | fail)
    have hb := and_low (l[i]).1 (l[i]).2.toNat (by omega) (by omega) (by omega)
    by_cases h4 : (l[i]).1 % 2 ^ (l[i]).2.toNat = 0
    case neg =>
      rw [bgo_one (by rw [oneB_al (n := n) h1 (by omega) h4]; decide), oneB_al (n := n) h1 (by omega) h4] at hgo
      subst hgo
      repeat' (first
        | (with_reducible first | refine W_seq ?_ | refine W_condT rfl ?_ | refine W_condF rfl ?_ | refine W_tf rfl (fun h => ?_) (fun h => ?_) | refine W_block ?_ | refine endQ_ret ?_ | refine endQ_normal ?_)
        | ((with_reducible first | refine hK _ ?_ | refine hK _ _ ?_); clear hK K)
        | ((first | (with_reducible first | refine ops_cons (fun K hK => ?_) | refine opsd_cons (fun K hK => ?_) | refine ops_nil ?_ | refine fit_i64 (by omega) ?_ | refine fit_any ?_) | ((with_reducible refine opsd_nil ?_); refine And.intro (by kernel_rfl) ?_) | with_reducible refine callV_snap ?_ | ((with_reducible refine call_go SizeOkS SizeOk_ok ?_); refine ⟨(by first | exact alOk_nil _ | exact alOk_f rfl), _, _, SizeOk_at _ h1, ?_⟩) | (with_reducible first | refine idx_map (by omega) ?_ | refine W_reg lv50BdH ?_ | refine W_drw lv50BdH (by kernel_rfl) ?_ | refine W_skip ?_ | refine W_exit ?_ | refine W_ret ?_ | refine end_at0 ?_) | (with_reducible refine And.intro (fun h => ?_) (fun h => ?_)) | (with_reducible refine And.intro (by omega) ?_)); (try simp only [go_sem, seval, reduceCtorEq, hki, hb0, h2, h3, hb, h4, lv50BdH, Try.ntmps50, Try.results50, CheckS]))
        | fail)
    have h1B := oneB_ok (n := n) h1 (by omega) h4
    cases i with
    | zero =>
      rw [prv, bgo_fst h1B] at hgo
      have hz : ((0 : Nat) : Int) = 0 := rfl
      have hki0 : (0 : Int) < l.length := by omega
      repeat' (first
        | (with_reducible first | refine W_seq ?_ | refine W_condT rfl ?_ | refine W_condF rfl ?_ | refine W_tf rfl (fun h => ?_) (fun h => ?_) | refine W_block ?_ | refine endQ_ret ?_ | refine endQ_normal ?_)
        | ((with_reducible first | refine hK _ ?_ | refine hK _ _ ?_); clear hK K)
        | ((first | (with_reducible first | refine ops_cons (fun K hK => ?_) | refine opsd_cons (fun K hK => ?_) | refine ops_nil ?_ | refine fit_i64 (by omega) ?_ | refine fit_any ?_) | ((with_reducible refine opsd_nil ?_); refine And.intro (by kernel_rfl) ?_) | with_reducible refine callV_snap ?_ | ((with_reducible refine call_go SizeOkS SizeOk_ok ?_); refine ⟨(by first | exact alOk_nil _ | exact alOk_f rfl), _, _, SizeOk_at _ h1, ?_⟩) | (with_reducible first | refine idx_map (by omega) ?_ | refine W_reg lv50BdH ?_ | refine W_drw lv50BdH (by kernel_rfl) ?_ | refine W_skip ?_ | refine W_exit ?_ | refine W_ret ?_ | refine end_at0 ?_) | (with_reducible refine And.intro (fun h => ?_) (fun h => ?_)) | (with_reducible refine And.intro (by omega) ?_)); (try simp only [go_sem, seval, reduceCtorEq, hki0, hb0, h2, h3, hb, h4, hz, lv50BdH, Try.ntmps50, Try.results50, CheckS]))
        | fail)
      refine ⟨1, [0], ⟨by omega, Pre.fst hlt h1B, by rw [prv, List.getElem?_eq_getElem hlt]; exact hgo⟩, by omega, ?_⟩
      simp [go_sem]
    | succ i =>
      have hi' : i < l.length := by omega
      have hp0 := hpre.one i hi' (by omega)
      obtain ⟨⟨q1, q2⟩, ⟨q3, q4⟩, q5⟩ := oneB_zero hp0
      have hpq := pow64 (l[i]).2 q1 q2
      have q6 : (l[i]).1 ≤ 256 := by omega
      have hne : ¬ ((i + 1 : Nat) : Int) = 0 := by omega
      have hsub : (((i + 1 : Nat) : Int) - 1) = (i : Int) := by omega
      have hki2 : (i : Int) < l.length := by omega
      have hb1 : encBk l[i] = [.int .i64 (l[i]).1, .int .i64 (l[i]).2] := rfl
      rw [prv, List.getElem?_eq_getElem hi'] at hgo
      by_cases h5 : (l[i + 1]).1 < (l[i]).1 + 2 ^ (l[i]).2.toNat
      · rw [bgo_two h1B (by rw [twoB_ord h5]; decide), twoB_ord h5] at hgo
        subst hgo
        repeat' (first
          | (with_reducible first | refine W_seq ?_ | refine W_condT rfl ?_ | refine W_condF rfl ?_ | refine W_tf rfl (fun h => ?_) (fun h => ?_) | refine W_block ?_ | refine endQ_ret ?_ | refine endQ_normal ?_)
          | ((with_reducible first | refine hK _ ?_ | refine hK _ _ ?_); clear hK K)
          | ((first | (with_reducible first | refine ops_cons (fun K hK => ?_) | refine opsd_cons (fun K hK => ?_) | refine ops_nil ?_ | refine fit_i64 (by omega) ?_ | refine fit_any ?_) | ((with_reducible refine opsd_nil ?_); refine And.intro (by kernel_rfl) ?_) | with_reducible refine callV_snap ?_ | ((with_reducible refine call_go SizeOkS SizeOk_ok ?_); refine ⟨(by first | exact alOk_nil _ | exact alOk_f rfl), _, _, SizeOk_at _ h1, ?_⟩) | ((with_reducible refine call_go bendS bend_ok ?_); refine ⟨(by first | exact alOk_nil _ | exact alOk_f rfl), _, _, bend_at _ _ q1 q2 q3 q6, ?_⟩) | (with_reducible first | refine idx_map (by omega) ?_ | refine W_reg lv50BdH ?_ | refine W_drw lv50BdH (by kernel_rfl) ?_ | refine W_skip ?_ | refine W_exit ?_ | refine W_ret ?_ | refine end_at0 ?_) | (with_reducible refine And.intro (fun h => ?_) (fun h => ?_)) | (with_reducible refine And.intro (by omega) ?_)); (try simp only [go_sem, seval, reduceCtorEq, hki, hb0, hb1, h2, h3, hb, h4, hne, hsub, hki2, h5, lv50BdH, Try.ntmps50, Try.results50, CheckS]))
          | fail)
      by_cases h6 : (l[i + 1]).2 < 6
      · have hx := xor_i (l[i + 1]).1 (l[i + 1]).2.toNat (by omega) (by omega) (by omega) h4
        by_cases h8 : (l[i]).1 = bits .xor .i64 (l[i + 1]).1 (2 ^ (l[i + 1]).2.toNat) ∧ (l[i]).2 = (l[i + 1]).2
        · have h9 : (l[i + 1]).2 < 6 ∧ (l[i]).2 = (l[i + 1]).2 ∧ (l[i]).1 + 2 ^ (l[i + 1]).2.toNat = (l[i + 1]).1 ∧ (l[i]).1 % (2 * 2 ^ (l[i + 1]).2.toNat) = 0 := by
            refine ⟨h6, h8.2, ?_⟩
            obtain ⟨g1, g2⟩ := h8
            rw [hx] at g1
            rw [g2] at h5
            split at g1
            · omega
            · rename_i hz
              have := half_even (p := 2 ^ (l[i + 1]).2.toNat) (a := (l[i]).1) hp.1 (by rw [← g2]; exact q5) (by rw [g1]; intro hh; apply hz; rw [← hh]; congr 1; omega)
              exact ⟨by omega, this⟩
          rw [bgo_two h1B (by rw [twoB_ex h5 h9]; decide), twoB_ex h5 h9] at hgo
          subst hgo
          have hT := eq_true h8
          repeat' (first
            | (with_reducible first | refine W_seq ?_ | refine W_condT rfl ?_ | refine W_condF rfl ?_ | refine W_tf rfl (fun h => ?_) (fun h => ?_) | refine W_block ?_ | refine endQ_ret ?_ | refine endQ_normal ?_)
            | ((with_reducible first | refine hK _ ?_ | refine hK _ _ ?_); clear hK K)
            | ((with_reducible refine And.intro eqt_block ?_); (try simp only [go_sem, seval, reduceCtorEq]))
            | ((first | (with_reducible first | refine ops_cons (fun K hK => ?_) | refine opsd_cons (fun K hK => ?_) | refine ops_nil ?_ | refine fit_i64 (by omega) ?_ | refine fit_any ?_) | ((with_reducible refine opsd_nil ?_); refine And.intro (by kernel_rfl) ?_) | with_reducible refine callV_snap ?_ | ((with_reducible refine call_go SizeOkS SizeOk_ok ?_); refine ⟨(by first | exact alOk_nil _ | exact alOk_f rfl), _, _, SizeOk_at _ h1, ?_⟩) | ((with_reducible refine call_go bendS bend_ok ?_); refine ⟨(by first | exact alOk_nil _ | exact alOk_f rfl), _, _, bend_at _ _ q1 q2 q3 q6, ?_⟩) | (with_reducible first | refine idx_map (by omega) ?_ | refine W_reg lv50BdH ?_ | refine W_drw lv50BdH (by kernel_rfl) ?_ | refine W_skip ?_ | refine W_exit ?_ | refine W_ret ?_ | refine end_at0 ?_) | (with_reducible refine And.intro (fun h => ?_) (fun h => ?_)) | (with_reducible refine And.intro (by omega) ?_)); (try simp only [go_sem, seval, reduceCtorEq, hki, hb0, hb1, h2, h3, hb, h4, hne, hsub, hki2, h5, h6, hT, lv50BdH, Try.ntmps50, Try.results50, CheckS]))
            | fail)
        · have h7 : twoB l[i] l[i + 1] = 0 := by
            refine twoB_ok h5 (fun ⟨g0, g1, g2, g3⟩ => h8 ⟨?_, g1⟩)
            rw [hx, if_neg ?_]
            · omega
            · rw [← g2]
              intro hh
              have := odd_up' (p := 2 ^ (l[i + 1]).2.toNat) (a := (l[i]).1) hp.1 g3
              exact this hh
          rw [bgo_go h1B h7] at hgo
          repeat' (first
            | (with_reducible first | refine W_seq ?_ | refine W_condT rfl ?_ | refine W_condF rfl ?_ | refine W_tf rfl (fun h => ?_) (fun h => ?_) | refine W_block ?_ | refine endQ_ret ?_ | refine endQ_normal ?_)
            | ((with_reducible first | refine hK _ ?_ | refine hK _ _ ?_); clear hK K)
            | ((with_reducible refine And.intro eqt_block ?_); (try simp only [go_sem, seval, reduceCtorEq]))
            | ((first | (with_reducible first | refine ops_cons (fun K hK => ?_) | refine opsd_cons (fun K hK => ?_) | refine ops_nil ?_ | refine fit_i64 (by omega) ?_ | refine fit_any ?_) | ((with_reducible refine opsd_nil ?_); refine And.intro (by kernel_rfl) ?_) | with_reducible refine callV_snap ?_ | ((with_reducible refine call_go SizeOkS SizeOk_ok ?_); refine ⟨(by first | exact alOk_nil _ | exact alOk_f rfl), _, _, SizeOk_at _ h1, ?_⟩) | ((with_reducible refine call_go bendS bend_ok ?_); refine ⟨(by first | exact alOk_nil _ | exact alOk_f rfl), _, _, bend_at _ _ q1 q2 q3 q6, ?_⟩) | (with_reducible first | refine idx_map (by omega) ?_ | refine W_reg lv50BdH ?_ | refine W_drw lv50BdH (by kernel_rfl) ?_ | refine W_skip ?_ | refine W_exit ?_ | refine W_ret ?_ | refine end_at0 ?_) | (with_reducible refine And.intro (fun h => ?_) (fun h => ?_)) | (with_reducible refine And.intro (by omega) ?_)); (try simp only [go_sem, seval, reduceCtorEq, hki, hb0, hb1, h2, h3, hb, h4, hne, hsub, hki2, h5, h6, h8, lv50BdH, Try.ntmps50, Try.results50, CheckS]))
            | fail)
          refine ⟨i + 2, [0], ⟨by omega, hpre.step hlt h1B h7, by rw [prv, List.getElem?_eq_getElem hlt]; exact hgo⟩, by omega, ?_⟩
          simp [go_sem]
          omega
      · have h7 := twoB_ok h5 (fun h => h6 h.1)
        rw [bgo_go h1B h7] at hgo
        repeat' (first
          | (with_reducible first | refine W_seq ?_ | refine W_condT rfl ?_ | refine W_condF rfl ?_ | refine W_tf rfl (fun h => ?_) (fun h => ?_) | refine W_block ?_ | refine endQ_ret ?_ | refine endQ_normal ?_)
          | ((with_reducible first | refine hK _ ?_ | refine hK _ _ ?_); clear hK K)
          | ((first | (with_reducible first | refine ops_cons (fun K hK => ?_) | refine opsd_cons (fun K hK => ?_) | refine ops_nil ?_ | refine fit_i64 (by omega) ?_ | refine fit_any ?_) | ((with_reducible refine opsd_nil ?_); refine And.intro (by kernel_rfl) ?_) | with_reducible refine callV_snap ?_ | ((with_reducible refine call_go SizeOkS SizeOk_ok ?_); refine ⟨(by first | exact alOk_nil _ | exact alOk_f rfl), _, _, SizeOk_at _ h1, ?_⟩) | ((with_reducible refine call_go bendS bend_ok ?_); refine ⟨(by first | exact alOk_nil _ | exact alOk_f rfl), _, _, bend_at _ _ q1 q2 q3 q6, ?_⟩) | (with_reducible first | refine idx_map (by omega) ?_ | refine W_reg lv50BdH ?_ | refine W_drw lv50BdH (by kernel_rfl) ?_ | refine W_skip ?_ | refine W_exit ?_ | refine W_ret ?_ | refine end_at0 ?_) | (with_reducible refine And.intro (fun h => ?_) (fun h => ?_)) | (with_reducible refine And.intro (by omega) ?_)); (try simp only [go_sem, seval, reduceCtorEq, hki, hb0, hb1, h2, h3, hb, h4, hne, hsub, hki2, h5, h6, lv50BdH, Try.ntmps50, Try.results50, CheckS]))
          | fail)
        refine ⟨i + 2, [0], ⟨by omega, hpre.step hlt h1B h7, by rw [prv, List.getElem?_eq_getElem hlt]; exact hgo⟩, by omega, ?_⟩
        simp [go_sem]
        omega
  · have hki : ¬ (i : Int) < l.length := by omega
    have hn : bgo n (prv l i) i (l.drop i) = (0, 0) := by rw [List.drop_eq_nil_of_le (by omega)]; cases prv l i <;> rfl
    rw [hn] at hgo
    subst hgo
    repeat' (first
      | (with_reducible first | refine W_seq ?_ | refine W_condT rfl ?_ | refine W_condF rfl ?_ | refine W_tf rfl (fun h => ?_) (fun h => ?_) | refine W_block ?_ | refine endQ_ret ?_ | refine endQ_normal ?_)
      | ((with_reducible first | refine hK _ ?_ | refine hK _ _ ?_); clear hK K)
      | ((first | (with_reducible first | refine ops_cons (fun K hK => ?_) | refine opsd_cons (fun K hK => ?_) | refine ops_nil ?_ | refine fit_i64 (by omega) ?_ | refine fit_any ?_) | ((with_reducible refine opsd_nil ?_); refine And.intro (by kernel_rfl) ?_) | with_reducible refine callV_snap ?_ | (with_reducible first | refine idx_map (by omega) ?_ | refine W_reg lv50BdH ?_ | refine W_drw lv50BdH (by kernel_rfl) ?_ | refine W_skip ?_ | refine W_exit ?_ | refine W_ret ?_ | refine end_at0 ?_) | (with_reducible refine And.intro (fun h => ?_) (fun h => ?_)) | (with_reducible refine And.intro (by omega) ?_)); (try simp only [go_sem, seval, reduceCtorEq, hki, lv50BdH, Try.ntmps50, Try.results50, CheckS]))
      | fail)
end Go.Proofs.Ytacfipmigkbncaa
