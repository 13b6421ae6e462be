/- Contracts of helpers of headgatekit. -/
import Derived.Test.YtokocigmchfdfaaRows
import Derived.Test.YtokocigmchfdfaaLib2
set_option linter.unusedSimpArgs false
set_option linter.unusedVariables false
namespace Go.Proofs.Ytokocigmchfdfaa
open Go.RowKit

theorem tmod_neg (n k : Int) (hn : n < 0) (hk : 1 ≤ k) : n.tmod k ≤ 0 ∧ -k < n.tmod k ∧ (n.tmod k < 0 → n.tmod k + k = n % k) ∧ (0 ≤ n.tmod k → n.tmod k = n % k) := by
  obtain ⟨m, rfl⟩ : ∃ m : Int, n = -m := ⟨-n, by omega⟩
  have h0 : (-m).tmod k = -(m % k) := by rw [Int.neg_tmod, Int.tmod_eq_emod_of_nonneg (by omega)]
  have h1 := Int.emod_nonneg m (show k ≠ 0 by omega)
  have h2 := Int.emod_lt_of_pos m (show 0 < k by omega)
  rw [h0]
  refine ⟨by omega, by omega, fun h => ?_, fun h => ?_⟩
  · have h3 : -m = (k - m % k) + k * (-(m / k) - 1) := by
      have := Int.emod_add_mul_ediv m k
      rw [Int.mul_sub, Int.mul_neg, Int.mul_one]
      omega
    have h4 : (-m) % k = k - m % k := by
      have h5 : ((k - m % k) + k * (-(m / k) - 1)) % k = k - m % k := by
        rw [Int.add_mul_emod_self_left, Int.emod_eq_of_lt (by omega) (by omega)]
      rw [← h3] at h5
      exact h5
    omega
  · have h4 : m % k = 0 := by omega
    rw [h4]
    have : k ∣ m := Int.dvd_of_emod_eq_zero h4
    have h5 : k ∣ -m := (Int.dvd_neg).2 this
    rw [Int.emod_eq_zero_of_dvd h5]
    rfl

theorem Mod_any (n k : Int) (w : World) (hk : 1 ≤ k) (hk2 : k ≤ 9223372036854775807) :
    Calls Try.prog 30 #[.int .i64 n, .int .i64 k] w fun e w' => e = .returned (.int .i64 (n % k)) ∧ w = w' := by
  have d : decide (k < 1) = false := by simp; omega
  by_cases hn : 0 ≤ n
  · have h1 := Int.emod_nonneg n (show k ≠ 0 by omega)
    go_enter Try.func30, Try.ntmps30
    go_wp2
    go_ret
    exact ⟨rfl, rfl⟩
  · obtain ⟨h1, h2, h3, h4⟩ := tmod_neg n k (by omega) hk
    by_cases hz : n.tmod k < 0
    · have E := Lib.hid (h3 hz)
      clear h3 h4
      go_enter Try.func30, Try.ntmps30
      go_wp2
      go_ret
      exact ⟨ret_int E.out, rfl⟩
    · have E := Lib.hid (h4 (by omega))
      clear h3 h4
      go_enter Try.func30, Try.ntmps30
      go_wp2
      go_ret
      exact ⟨ret_int E.out, rfl⟩
end Go.Proofs.Ytokocigmchfdfaa
