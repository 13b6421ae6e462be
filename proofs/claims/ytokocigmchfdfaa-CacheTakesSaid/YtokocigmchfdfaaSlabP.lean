/- Plain facts on the eight places of a slab: a number from 0 to 255. -/
import Derived.WalkKit
import Derived.Lib.BitFns
set_option linter.unusedSimpArgs false
set_option linter.unusedVariables false
namespace Go.Proofs.Ytokocigmchfdfaa
open Go.RowKit

def tz (u : Int) : Int := Lib.trailingZeros8 u.toNat
def oc (u : Int) : Int := Lib.onesCount u.toNat
/-- the lowest place that is free; 8 if there is none -/
def plc (u : Int) : Int := tz (255 - u)
/-- is a place used -/
def usd (u : Int) (p : Int) : Bool := decide (u / 2 ^ p.toNat % 2 = 1)

theorem of_fin {Q : Int → Prop} (h : ∀ n : Fin 256, Q (n.1 : Int)) (u : Int) (h0 : 0 ≤ u) (h1 : u ≤ 255) : Q u := by
  obtain ⟨n, rfl⟩ := Int.eq_ofNat_of_zero_le h0
  exact h ⟨n, by omega⟩
theorem of_fin8 {Q : Int → Int → Prop} (h : ∀ n : Fin 256, ∀ k : Fin 8, Q (n.1 : Int) (k.1 : Int)) (u p : Int) (h0 : 0 ≤ u) (h1 : u ≤ 255) (p0 : 0 ≤ p) (p1 : p ≤ 7) : Q u p := by
  obtain ⟨n, rfl⟩ := Int.eq_ofNat_of_zero_le h0
  obtain ⟨k, rfl⟩ := Int.eq_ofNat_of_zero_le p0
  exact h ⟨n, by omega⟩ ⟨k, by omega⟩

theorem not_u8 (u : Int) (h0 : 0 ≤ u) (h1 : u ≤ 255) : bits .xor .u8 IntKind.u8.max u = 255 - u :=
  of_fin (Q := fun u => bits .xor .u8 IntKind.u8.max u = 255 - u) (by decide +kernel) u h0 h1
theorem plc_bd (u : Int) (h0 : 0 ≤ u) (h1 : u ≤ 254) : 0 ≤ plc u ∧ plc u ≤ 7 := by
  have := of_fin (Q := fun u => u ≤ 254 → 0 ≤ plc u ∧ plc u ≤ 7) (by decide +kernel) u h0 (by omega)
  exact this h1
theorem plc_free (u : Int) (h0 : 0 ≤ u) (h1 : u ≤ 254) : usd u (plc u) = false := by
  have := of_fin (Q := fun u => u ≤ 254 → usd u (plc u) = false) (by decide +kernel) u h0 (by omega)
  exact this h1
theorem plc_least (u p : Int) (h0 : 0 ≤ u) (h1 : u ≤ 255) (p0 : 0 ≤ p) (p1 : p ≤ 7) (h : usd u p = false) : plc u ≤ p := by
  have := of_fin8 (Q := fun u p => usd u p = false → plc u ≤ p) (by decide +kernel) u p h0 h1 p0 p1
  exact this h
theorem or_free (u p : Int) (h0 : 0 ≤ u) (h1 : u ≤ 255) (p0 : 0 ≤ p) (p1 : p ≤ 7) (h : usd u p = false) : bits .or .u8 u (2 ^ p.toNat) = u + 2 ^ p.toNat := by
  have := of_fin8 (Q := fun u p => usd u p = false → bits .or .u8 u (2 ^ p.toNat) = u + 2 ^ p.toNat) (by decide +kernel) u p h0 h1 p0 p1
  exact this h
theorem free_bd (u p : Int) (h0 : 0 ≤ u) (h1 : u ≤ 255) (p0 : 0 ≤ p) (p1 : p ≤ 7) (h : usd u p = false) : u + 2 ^ p.toNat ≤ 255 := by
  have := of_fin8 (Q := fun u p => usd u p = false → u + 2 ^ p.toNat ≤ 255) (by decide +kernel) u p h0 h1 p0 p1
  exact this h
theorem used_bd (u p : Int) (h0 : 0 ≤ u) (h1 : u ≤ 255) (p0 : 0 ≤ p) (p1 : p ≤ 7) (h : usd u p = true) : 0 ≤ u - 2 ^ p.toNat := by
  have := of_fin8 (Q := fun u p => usd u p = true → 0 ≤ u - 2 ^ p.toNat) (by decide +kernel) u p h0 h1 p0 p1
  exact this h
theorem and_bit (u p : Int) (h0 : 0 ≤ u) (h1 : u ≤ 255) (p0 : 0 ≤ p) (p1 : p ≤ 7) : (bits .and .u8 u (2 ^ p.toNat) == 0) = !usd u p :=
  of_fin8 (Q := fun u p => (bits .and .u8 u (2 ^ p.toNat) == 0) = !usd u p) (by decide +kernel) u p h0 h1 p0 p1
theorem andNot_used (u p : Int) (h0 : 0 ≤ u) (h1 : u ≤ 255) (p0 : 0 ≤ p) (p1 : p ≤ 7) (h : usd u p = true) : bits .andNot .u8 u (2 ^ p.toNat) = u - 2 ^ p.toNat := by
  have := of_fin8 (Q := fun u p => usd u p = true → bits .andNot .u8 u (2 ^ p.toNat) = u - 2 ^ p.toNat) (by decide +kernel) u p h0 h1 p0 p1
  exact this h
theorem pow8_bd (p : Int) (p0 : 0 ≤ p) (p1 : p ≤ 7) : 1 ≤ (2 : Int) ^ p.toNat ∧ (2 : Int) ^ p.toNat ≤ 128 := by
  have : p = 0 ∨ p = 1 ∨ p = 2 ∨ p = 3 ∨ p = 4 ∨ p = 5 ∨ p = 6 ∨ p = 7 := by omega
  rcases this with rfl | rfl | rfl | rfl | rfl | rfl | rfl | rfl <;> decide
end Go.Proofs.Ytokocigmchfdfaa
