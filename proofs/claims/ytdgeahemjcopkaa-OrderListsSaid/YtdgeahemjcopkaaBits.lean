/- Bit operations on int at small powers of two. -/
import Derived.WalkKit
import Derived.Laws.BitsAllLaws
import Derived.Laws.BitsLemmas
set_option linter.unusedSimpArgs false
set_option linter.unusedVariables false
namespace Go.Proofs.Ytdgeahemjcopkaa
open Go.RowKit

theorem ofInt_i64 (a : Nat) (ha : a < 9223372036854775808) : (BitVec.ofInt 64 (a : Int)).toNat = a := by
  rw [BitVec.ofInt_natCast, BitVec.toNat_ofNat]; exact Nat.mod_eq_of_lt (by omega)
theorem i64_and_nat (a b : Nat) (ha : a < 9223372036854775808) (hb : b < 9223372036854775808) : bits .and .i64 (a : Int) (b : Int) = ((a &&& b : Nat) : Int) := by
  have hx : a &&& b < 2 ^ 63 := Nat.and_lt_two_pow _ (by omega)
  show IntKind.i64.wrap ((BitVec.ofInt 64 (a : Int) &&& BitVec.ofInt 64 (b : Int)).toNat : Int) = _
  rw [BitVec.toNat_and, ofInt_i64 a ha, ofInt_i64 b hb, IntKind.wrap_i64]
  omega
theorem i64_xor_nat (a b : Nat) (ha : a < 9223372036854775808) (hb : b < 9223372036854775808) : bits .xor .i64 (a : Int) (b : Int) = ((a ^^^ b : Nat) : Int) := by
  have hx : a ^^^ b < 2 ^ 63 := Nat.xor_lt_two_pow (by omega) (by omega)
  show IntKind.i64.wrap ((BitVec.ofInt 64 (a : Int) ^^^ BitVec.ofInt 64 (b : Int)).toNat : Int) = _
  rw [BitVec.toNat_xor, ofInt_i64 a ha, ofInt_i64 b hb, IntKind.wrap_i64]
  omega

theorem pow_bd (o : Int) (h0 : 0 ≤ o) (h1 : o ≤ 6) : 1 ≤ (2 : Int) ^ o.toNat ∧ (2 : Int) ^ o.toNat ≤ 64 := by
  have : o = 0 ∨ o = 1 ∨ o = 2 ∨ o = 3 ∨ o = 4 ∨ o = 5 ∨ o = 6 := by omega
  rcases this with rfl | rfl | rfl | rfl | rfl | rfl | rfl <;> decide

theorem and_mask (a o : Int) (h0 : 0 ≤ o) (h1 : o ≤ 6) (ha : 0 ≤ a) (hb : a ≤ 9223372036854775807) : bits .and .i64 a (2 ^ o.toNat - 1) = a % 2 ^ o.toNat := by
  obtain ⟨n, rfl⟩ := Int.eq_ofNat_of_zero_le ha
  have hp := pow_bd o h0 h1
  generalize o.toNat = k at *
  have e : ((2 : Int) ^ k - 1) = ((2 ^ k - 1 : Nat) : Int) := by
    have : (1 : Nat) ≤ 2 ^ k := Nat.one_le_two_pow
    rw [Int.ofNat_sub this]; simp
  have hk : ((2 : Int) ^ k) = ((2 ^ k : Nat) : Int) := by simp
  have hlt : 2 ^ k - 1 < 9223372036854775808 := by omega
  rw [e, i64_and_nat n _ (by omega) hlt, Nat.and_two_pow_sub_one_eq_mod, hk]
  rfl

/-- 'a ^ 2^k' and 'a &^ 2^k' of a small aligned number -/
theorem xor_pow (a o : Int) (h0 : 0 ≤ o) (h1 : o ≤ 6) (ha : 0 ≤ a) (hb : a ≤ 256) (hz : a % 2 ^ o.toNat = 0) :
    bits .xor .i64 a (2 ^ o.toNat) = if a % (2 * 2 ^ o.toNat) = 0 then a + 2 ^ o.toNat else a - 2 ^ o.toNat := by
  obtain ⟨n, rfl⟩ := Int.eq_ofNat_of_zero_le ha
  have hn : n ≤ 256 := by omega
  have : ∀ k : Fin 7, ∀ n : Fin 257, (n.1 : Int) % 2 ^ k.1 = 0 → bits .xor .i64 (n.1 : Int) (2 ^ k.1) = if (n.1 : Int) % (2 * 2 ^ k.1) = 0 then (n.1 : Int) + 2 ^ k.1 else (n.1 : Int) - 2 ^ k.1 := by decide +kernel
  exact this ⟨o.toNat, by omega⟩ ⟨n, by omega⟩ hz

theorem andNot_pow (a o : Int) (h0 : 0 ≤ o) (h1 : o ≤ 6) (ha : 0 ≤ a) (hb : a ≤ 256) (hz : a % 2 ^ o.toNat = 0) :
    bits .andNot .i64 a (2 ^ o.toNat) = if a % (2 * 2 ^ o.toNat) = 0 then a else a - 2 ^ o.toNat := by
  obtain ⟨n, rfl⟩ := Int.eq_ofNat_of_zero_le ha
  have hn : n ≤ 256 := by omega
  have : ∀ k : Fin 7, ∀ n : Fin 257, (n.1 : Int) % 2 ^ k.1 = 0 → bits .andNot .i64 (n.1 : Int) (2 ^ k.1) = if (n.1 : Int) % (2 * 2 ^ k.1) = 0 then (n.1 : Int) else (n.1 : Int) - 2 ^ k.1 := by decide +kernel
  exact this ⟨o.toNat, by omega⟩ ⟨n, by omega⟩ hz
end Go.Proofs.Ytdgeahemjcopkaa
