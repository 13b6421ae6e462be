/- The walk of OrderPowers. -/
import Derived.Test.YtdgeahemjcopkaaOrdL
import Derived.Test.YtdgeahemjcopkaaOrdOpen
import Derived.Test.YtdgeahemjcopkaaKitA
namespace Go.Proofs.Ytdgeahemjcopkaa.orderPowers
open Go.RowKit

theorem facts (n : Int) (h1 : 1 ≤ n) (h2 : n ≤ 1099511627776) : lgE n = 0 ∧ ∃ k : Nat, lg n = k ∧ k ≤ 40 ∧ (2 : Int) ^ k ≤ n ∧ n < 2 ^ (k + 1) ∧ ((n = 2 ^ k ∧ ls n = k) ∨ (n ≠ 2 ^ k ∧ ls n = k + 1)) := by
  have hn : ¬ n < 1 := by omega
  obtain ⟨x, rfl⟩ := Int.eq_ofNat_of_zero_le (show 0 ≤ n by omega)
  have hx : x ≠ 0 := by omega
  obtain ⟨a, b, c⟩ := bitLen_bounds x hx (by omega)
  obtain ⟨k, hk⟩ : ∃ k, Lib.bitLen x = k + 1 := ⟨Lib.bitLen x - 1, by omega⟩
  rw [hk] at a b
  simp only [Nat.add_sub_cancel] at a
  have hle : Lib.bitLen x ≤ 41 := Lib.bitLen_le x 41 (by omega) (by omega)
  have p1 : ((2 : Int) ^ k) = ((2 ^ k : Nat) : Int) := by simp
  have p2 : ((2 : Int) ^ (k + 1)) = ((2 ^ (k + 1) : Nat) : Int) := by simp
  refine ⟨by simp [lgE]; omega, k, ?_, by omega, ?_, ?_, ?_⟩
  · unfold lg; rw [if_neg hn, Int.toNat_natCast, hk]; omega
  · rw [p1]; omega
  · rw [p2]; omega
  · have e : ((x : Int) - 1).toNat = x - 1 := by omega
    unfold ls
    rw [if_neg hn, e, p1]
    by_cases hq : x = 2 ^ k
    · left
      refine ⟨by omega, ?_⟩
      cases k with
      | zero => simp at hq; subst hq; decide
      | succ j =>
        have q : (2 : Nat) ^ (j + 1) = 2 ^ j * 2 := Nat.pow_succ 2 j
        have q1 : 1 ≤ 2 ^ j := Nat.one_le_two_pow
        rw [bitLen_eq (x - 1) j (by omega) (by omega) (by omega)]
    · right
      refine ⟨by omega, ?_⟩
      rw [bitLen_eq (x - 1) k (by omega) (by omega) (by omega)]
      omega

theorem walk (x : Int) (hx : (Lit.int .i64 x).wf = true) (w : World) :
    Calls Try.prog 7 #[.int .i64 x] w fun e w' => e = .returned (.bool true) ∧ Below w.heap.size w w' := by
  have f0 := Int.emod_nonneg x (show (1099511627776 : Int) ≠ 0 by omega)
  have f1 := Int.emod_lt_of_pos x (show (0 : Int) < 1099511627776 by omega)
  go_enter Try.func7, Try.ntmps7
  go_wp2_with fail
  refine (Mod_any x 1099511627776 _ (by omega) (by omega)).mono ?_
  rintro e w1 ⟨rfl, rfl⟩
  generalize x % 1099511627776 = m at *
  obtain ⟨g1, k, g2, g3, g4, g5, g6⟩ := facts (1 + m) (by omega) (by omega)
  have hpk := pow_nat k
  have hpk1 : (2 : Int) ^ (k + 1) = 2 ^ k * 2 := Int.pow_succ 2 k
  have hpk2 : (2 : Int) ^ k ≤ 1099511627776 := by omega
  have hpk3 : (2 : Int) ^ (k + 1) ≤ 2199023255552 := by omega
  have hpk4 := pow_nat (k + 1)
  have G1 := Lib.hid g1; have G2 := Lib.hid g2
  clear g1 g2 hpk1
  go_wp2_with fail
  refine (Log_any _ _ (by omega)).mono ?_
  rintro e w1 ⟨rfl, rfl⟩
  rw [G1.out, G2.out]
  go_wp2_with fail
  refine (Least_any _ _ (by omega)).mono ?_
  rintro e w1 ⟨rfl, rfl⟩
  rw [G1.out]
  rcases g6 with ⟨g6, g7⟩ | ⟨g6, g7⟩
  · rw [g7]
    have h6 : (1 + m == 2 ^ k) = true := by simp [g6]
    have G6 := Lib.hid g6
    clear g6 g7
    go_wp2_with fail
    refine (awake_any _).mono ?_
    rintro e w1 ⟨rfl, hb1⟩
    go_wp2
    go_ret
    exact ⟨rfl, (by repeat (first | exact Below.refl _ _ | assumption | apply Below.drew | apply b_drewN | apply b_alloc | (refine Below.setCell ?_ (by (try simp); (try omega)) _) | (refine b_then ?_ (by assumption))))⟩
  · rw [g7]
    have h6 : (1 + m == 2 ^ k) = false := by simp [g6]
    have h7 : ((k : Int) + 1 == k) = false := by simp; omega
    have G6 := Lib.hid g6
    clear g6 g7
    go_wp2_with fail
    refine (awake_any _).mono ?_
    rintro e w1 ⟨rfl, hb1⟩
    go_wp2
    go_ret
    exact ⟨rfl, (by repeat (first | exact Below.refl _ _ | assumption | apply Below.drew | apply b_drewN | apply b_alloc | (refine Below.setCell ?_ (by (try simp); (try omega)) _) | (refine b_then ?_ (by assumption))))⟩
end Go.Proofs.Ytdgeahemjcopkaa.orderPowers
