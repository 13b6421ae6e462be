/- A flat memory: Mod, step and made, by the engine. -/
import Derived.Test.YtdfolpfibhfmlaaFlAN
namespace Go.Proofs.Ytdfolpfibhfmlaa
open Go.RowKit
set_option maxRecDepth 100000
set_option linter.unusedSimpArgs false
set_option linter.unusedVariables false

abbrev lv39FlBA : List (Nat × List Nat) := [(0, [0, 1]), (1, [0, 1, 6]), (2, [4]), (3, [0, 1]), (4, [0, 1, 11]), (5, [0]), (6, [4])]
theorem tmod_neg (n k : Int) (hn : n < 0) (hk : 1 ≤ k) : n.tmod k ≤ 0 ∧ -k < n.tmod k ∧ (n.tmod k < 0 → n.tmod k + k = n % k) ∧ (0 ≤ n.tmod k → n.tmod k = n % k) := by
  obtain ⟨m, rfl⟩ : ∃ m : Int, n = -m := ⟨-n, by omega⟩
  have h0 : (-m).tmod k = -(m % k) := by rw [Int.neg_tmod, Int.tmod_eq_emod_of_nonneg (by omega)]
  have h1 := Int.emod_nonneg m (show k ≠ 0 by omega)
  have h2 := Int.emod_lt_of_pos m (show 0 < k by omega)
  rw [h0]
  refine ⟨by omega, by omega, fun h => ?_, fun h => ?_⟩
  · have h3 : -m = (k - m % k) + k * (-(m / k) - 1) := by
      have := Int.emod_add_mul_ediv m k
      rw [Int.mul_sub, Int.mul_neg, Int.mul_one]
      omega
    have h4 : (-m) % k = k - m % k := by
      have h5 : ((k - m % k) + k * (-(m / k) - 1)) % k = k - m % k := by
        rw [Int.add_mul_emod_self_left, Int.emod_eq_of_lt (by omega) (by omega)]
      rw [← h3] at h5
      exact h5
    omega
  · have h4 : m % k = 0 := by omega
    rw [h4]
    have : k ∣ m := Int.dvd_of_emod_eq_zero h4
    have h5 : k ∣ -m := (Int.dvd_neg).2 this
    rw [Int.emod_eq_zero_of_dvd h5]
    rfl

def ModS : Spec := { rel := fun args ins res outs => ∃ n k : Int, 1 ≤ k ∧ k ≤ 9223372036854775807 ∧ args = [iv n, iv k] ∧ ins = [] ∧ res = iv (n % k) ∧ outs = [] }
theorem Mod_at (n k : Int) (h1 : 1 ≤ k) (h2 : k ≤ 9223372036854775807) : ModS.rel [iv n, iv k] [] (iv (n % k)) [] := ⟨n, k, h1, h2, rfl, rfl, rfl, rfl⟩
theorem Mod_ok : Ok Try.prog 39 ModS := by
  refine fn_ok ModS Try.func39 rfl rfl ?_
  rintro args ins res outs ⟨n, k, hk, hk2, rfl, rfl, rfl, rfl⟩
  refine ⟨by simp [Try.ntmps39], fun w0 V Bo mu0 => ?_⟩
  have d1 : ¬ k < 1 := by omega
  by_cases hn : 0 ≤ n
  · have h1 := Int.emod_nonneg n (show k ≠ 0 by omega)
    have h2 : ¬ n % k < 0 := by omega
    repeat' (first
      | (with_reducible first | refine W_seq ?_ | refine W_condT rfl ?_ | refine W_condF rfl ?_ | refine W_tf rfl (fun h => ?_) (fun h => ?_) | refine endQ_ret ?_ | refine endQ_normal ?_)
      | ((with_reducible first | refine hK _ ?_ | refine hK _ _ ?_); clear hK K)
      | ((first | (with_reducible first | refine ops_cons (fun K hK => ?_) | refine ops_nil ?_ | refine fit_i64 (by omega) ?_ | refine fit_any ?_ | refine rem_nn (by omega) ?_ | refine rem_any ?_) | (with_reducible first | refine W_reg lv39FlBA ?_ | refine W_skip ?_ | refine W_ret ?_ | refine end_at0 ?_) | (with_reducible refine And.intro (fun h => ?_) (fun h => ?_)) | (with_reducible refine And.intro (by omega) ?_)); (try simp only [go_sem, seval, reduceCtorEq, d1, h2, lv39FlBA, Try.ntmps39, Try.results39, ModS]))
      | fail)
  · obtain ⟨h1, h2, h3, h4⟩ := tmod_neg n k (by omega) hk
    generalize hr : n.tmod k = r at *
    by_cases hz : r < 0
    · have h5 := h3 hz
      repeat' (first
        | (with_reducible first | refine W_seq ?_ | refine W_condT rfl ?_ | refine W_condF rfl ?_ | refine W_tf rfl (fun h => ?_) (fun h => ?_) | refine endQ_ret ?_ | refine endQ_normal ?_)
        | ((with_reducible first | refine hK _ ?_ | refine hK _ _ ?_); clear hK K)
        | ((first | (with_reducible first | refine ops_cons (fun K hK => ?_) | refine ops_nil ?_ | refine fit_i64 (by omega) ?_ | refine fit_any ?_ | refine rem_nn (by omega) ?_ | refine rem_any ?_) | (with_reducible first | refine W_reg lv39FlBA ?_ | refine W_skip ?_ | refine W_ret ?_ | refine end_at0 ?_) | (with_reducible refine And.intro (fun h => ?_) (fun h => ?_)) | (with_reducible refine And.intro (by omega) ?_)); (try simp only [go_sem, seval, reduceCtorEq, d1, hr, hz, h5, lv39FlBA, Try.ntmps39, Try.results39, ModS]))
        | fail)
    · have h5 := h4 (by omega)
      rw [← h5]
      repeat' (first
        | (with_reducible first | refine W_seq ?_ | refine W_condT rfl ?_ | refine W_condF rfl ?_ | refine W_tf rfl (fun h => ?_) (fun h => ?_) | refine endQ_ret ?_ | refine endQ_normal ?_)
        | ((with_reducible first | refine hK _ ?_ | refine hK _ _ ?_); clear hK K)
        | ((first | (with_reducible first | refine ops_cons (fun K hK => ?_) | refine ops_nil ?_ | refine fit_i64 (by omega) ?_ | refine fit_any ?_ | refine rem_nn (by omega) ?_ | refine rem_any ?_) | (with_reducible first | refine W_reg lv39FlBA ?_ | refine W_skip ?_ | refine W_ret ?_ | refine end_at0 ?_) | (with_reducible refine And.intro (fun h => ?_) (fun h => ?_)) | (with_reducible refine And.intro (by omega) ?_)); (try simp only [go_sem, seval, reduceCtorEq, d1, hr, hz, lv39FlBA, Try.ntmps39, Try.results39, ModS]))
        | fail)
theorem m_num (n : Int) : n % 16777216 = ((numN n : Nat) : Int) := by unfold numN; omega
theorem num_lt (n : Int) : numN n < 16777216 := by unfold numN; omega
def stpS : Spec := { al := true, rel := fun args ins res outs => ∃ (s : FSt) (n : Int), Vl s ∧ args = [fm s.1 s.2.1 s.2.2, iv n] ∧ ins = [] ∧ res = .tup [fm (aft (opOf (numN n)) s).1 (aft (opOf (numN n)) s).2.1 (aft (opOf (numN n)) s).2.2, bv true] ∧ outs = [] }
theorem stp_at (s : FSt) (n : Int) (h : Vl s) : stpS.rel [fm s.1 s.2.1 s.2.2, iv n] [] (.tup [fm (aft (opOf (numN n)) s).1 (aft (opOf (numN n)) s).2.1 (aft (opOf (numN n)) s).2.2, bv true]) [] := ⟨s, n, h, rfl, rfl, rfl, rfl⟩
def stp0S : Spec := { al := true, rel := fun args ins res outs => ∃ (s : FSt) (n : Int), Vl s ∧ numN n % 8 = 0 ∧ args = [fm s.1 s.2.1 s.2.2, iv n] ∧ ins = [] ∧ res = .tup [fm (aft (opOf (numN n)) s).1 (aft (opOf (numN n)) s).2.1 (aft (opOf (numN n)) s).2.2, bv true] ∧ outs = [] }
def stp1S : Spec := { al := true, rel := fun args ins res outs => ∃ (s : FSt) (n : Int), Vl s ∧ numN n % 8 = 1 ∧ args = [fm s.1 s.2.1 s.2.2, iv n] ∧ ins = [] ∧ res = .tup [fm (aft (opOf (numN n)) s).1 (aft (opOf (numN n)) s).2.1 (aft (opOf (numN n)) s).2.2, bv true] ∧ outs = [] }
def stp2S : Spec := { al := true, rel := fun args ins res outs => ∃ (s : FSt) (n : Int), Vl s ∧ numN n % 8 = 2 ∧ args = [fm s.1 s.2.1 s.2.2, iv n] ∧ ins = [] ∧ res = .tup [fm (aft (opOf (numN n)) s).1 (aft (opOf (numN n)) s).2.1 (aft (opOf (numN n)) s).2.2, bv true] ∧ outs = [] }
def stp3S : Spec := { al := true, rel := fun args ins res outs => ∃ (s : FSt) (n : Int), Vl s ∧ numN n % 8 = 3 ∧ args = [fm s.1 s.2.1 s.2.2, iv n] ∧ ins = [] ∧ res = .tup [fm (aft (opOf (numN n)) s).1 (aft (opOf (numN n)) s).2.1 (aft (opOf (numN n)) s).2.2, bv true] ∧ outs = [] }
def stp4S : Spec := { al := true, rel := fun args ins res outs => ∃ (s : FSt) (n : Int), Vl s ∧ numN n % 8 = 4 ∧ args = [fm s.1 s.2.1 s.2.2, iv n] ∧ ins = [] ∧ res = .tup [fm (aft (opOf (numN n)) s).1 (aft (opOf (numN n)) s).2.1 (aft (opOf (numN n)) s).2.2, bv true] ∧ outs = [] }
def stp5S : Spec := { al := true, rel := fun args ins res outs => ∃ (s : FSt) (n : Int), Vl s ∧ 5 ≤ numN n % 8 ∧ args = [fm s.1 s.2.1 s.2.2, iv n] ∧ ins = [] ∧ res = .tup [fm (aft (opOf (numN n)) s).1 (aft (opOf (numN n)) s).2.1 (aft (opOf (numN n)) s).2.2, bv true] ∧ outs = [] }
end Go.Proofs.Ytdfolpfibhfmlaa
