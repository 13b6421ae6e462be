/- Logarithms: plain facts, contracts of Log, Least, Size on both sides. -/
import Derived.Test.YtdgeahemjcopkaaOrdD
import Derived.Test.YtdgeahemjcopkaaShelf
set_option linter.unusedSimpArgs false
set_option linter.unusedVariables false
namespace Go.Proofs.Ytdgeahemjcopkaa
open Go.RowKit

theorem aux_bounds : ∀ (f x : Nat), x ≠ 0 → x < 2 ^ f → 2 ^ (Lib.bitLenAux f x - 1) ≤ x ∧ x < 2 ^ Lib.bitLenAux f x ∧ 1 ≤ Lib.bitLenAux f x
  | 0, x, h0, h => by simp at h; omega
  | f + 1, x, h0, h => by
    unfold Lib.bitLenAux
    rw [if_neg h0]
    by_cases h1 : x / 2 = 0
    · have hx : x = 1 := by omega
      subst hx
      have : Lib.bitLenAux f (1 / 2) = 0 := by cases f <;> simp [Lib.bitLenAux]
      rw [this]; decide
    · obtain ⟨a, b, c⟩ := aux_bounds f (x / 2) h1 (by rw [Nat.pow_succ] at h; omega)
      generalize Lib.bitLenAux f (x / 2) = k at *
      obtain ⟨j, rfl⟩ : ∃ j, k = j + 1 := ⟨k - 1, by omega⟩
      have e1 : 1 + (j + 1) - 1 = j + 1 := by omega
      have e2 : 1 + (j + 1) = j + 1 + 1 := by omega
      rw [e1, e2, Nat.pow_succ 2 (j + 1), Nat.pow_succ 2 j]
      simp only [Nat.add_sub_cancel] at a
      rw [Nat.pow_succ] at b
      refine ⟨by omega, by omega, by omega⟩

theorem bitLen_bounds (x : Nat) (h0 : x ≠ 0) (h : x < 18446744073709551616) : 2 ^ (Lib.bitLen x - 1) ≤ x ∧ x < 2 ^ Lib.bitLen x ∧ 1 ≤ Lib.bitLen x :=
  aux_bounds 64 x h0 (by simpa using h)

theorem bitLen_eq (x j : Nat) (h1 : 2 ^ j ≤ x) (h2 : x < 2 ^ (j + 1)) (h : x < 18446744073709551616) : Lib.bitLen x = j + 1 := by
  have hp : 1 ≤ 2 ^ j := Nat.one_le_two_pow
  obtain ⟨a, b, c⟩ := bitLen_bounds x (by omega) h
  have p1 : j < Lib.bitLen x := (Nat.pow_lt_pow_iff_right (by decide : 1 < 2)).1 (Nat.lt_of_le_of_lt h1 b)
  have p2 : Lib.bitLen x - 1 < j + 1 := (Nat.pow_lt_pow_iff_right (by decide : 1 < 2)).1 (Nat.lt_of_le_of_lt a h2)
  omega

theorem bitLen_lt (x : Nat) (h : x < 9223372036854775808) : Lib.bitLen x ≤ 63 := Lib.bitLen_le x 63 (by omega) (by simpa using h)

/-- what the logarithms answer -/
def lgE (n : Int) : Int := if n < 1 then 2 else 0
def lg (n : Int) : Int := if n < 1 then 0 else Lib.bitLen n.toNat - 1
def ls (n : Int) : Int := if n < 1 then 0 else Lib.bitLen (n - 1).toNat

theorem Log_any (n : Int) (w : World) (hb : n ≤ 9223372036854775807) :
    Calls Try.prog 25 #[.int .i64 n] w fun e w' => e = .returned (.tuple #[.int .i64 (lg n), .int .i64 (lgE n)]) ∧ w = w' := by
  by_cases h : n < 1
  · have E : Hid (lg n = 0 ∧ lgE n = 2) := Lib.hid (by simp [lg, lgE, h])
    go_enter Try.func25, Try.ntmps25
    go_wp2
    go_ret2
    exact ⟨by rw [E.out.1, E.out.2]; rfl, rfl⟩
  · have E : Hid (lg n = Lib.bitLen n.toNat - 1 ∧ lgE n = 0) := Lib.hid (by simp [lg, lgE, h])
    have hl := bitLen_lt n.toNat (by omega)
    go_enter Try.func25, Try.ntmps25
    go_wp2_with (go_at_call 45; refine (bits_Len _ _ (by omega) (by omega)).mono ?_; rintro e w' ⟨rfl, hw⟩; obtain rfl := hw)
    go_ret2
    exact ⟨by rw [E.out.1, E.out.2]; rfl, rfl⟩

theorem Least_any (n : Int) (w : World) (hb : n ≤ 9223372036854775807) :
    Calls Try.prog 27 #[.int .i64 n] w fun e w' => e = .returned (.tuple #[.int .i64 (ls n), .int .i64 (lgE n)]) ∧ w = w' := by
  by_cases h : n < 1
  · have E : Hid (ls n = 0 ∧ lgE n = 2) := Lib.hid (by simp [ls, lgE, h])
    go_enter Try.func27, Try.ntmps27
    go_wp2
    go_ret2
    exact ⟨by rw [E.out.1, E.out.2]; rfl, rfl⟩
  · have E : Hid (ls n = Lib.bitLen (n.toNat - 1) ∧ lgE n = 0) := Lib.hid (by simp [ls, lgE, h])
    have hl := bitLen_lt n.toNat (by omega)
    go_enter Try.func27, Try.ntmps27
    go_wp2_with (go_at_call 45; refine (bits_Len _ _ (by omega) (by omega)).mono ?_; rintro e w' ⟨rfl, hw⟩; obtain rfl := hw)
    go_ret2
    exact ⟨by rw [E.out.1, E.out.2]; rfl, rfl⟩

theorem rLog_any (n : Int) (w : World) (hb : n ≤ 9223372036854775807) :
    Calls Try.prog 26 #[.int .i64 n] w fun e w' => e = .returned (.tuple #[.int .i64 (lg n), .int .i64 (lgE n)]) ∧ w = w' := by
  by_cases h : n < 1
  · have E : Hid (lg n = 0 ∧ lgE n = 2) := Lib.hid (by simp [lg, lgE, h])
    go_enter Try.func26, Try.ntmps26
    go_wp2
    go_ret2
    exact ⟨by rw [E.out.1, E.out.2]; rfl, rfl⟩
  · have E : Hid (lg n = Lib.bitLen n.toNat - 1 ∧ lgE n = 0) := Lib.hid (by simp [lg, lgE, h])
    have hl := bitLen_lt n.toNat (by omega)
    have d : decide (n < 1) = false := by simp; omega
    go_enter Try.func26, Try.ntmps26
    go_wp2
    go_loop [0, 4] (fun x i => ∃ (m : Int) (k : Nat), 1 ≤ m ∧ m ≤ 9223372036854775807 ∧ x = .int .i64 m ∧ i = .int .i64 k ∧ Hid (Lib.bitLen n.toNat = Lib.bitLen m.toNat + k) ∧ k ≤ 63) (fun x _ => (intOf x).toNat)
    case atStart => exact ⟨n, 0, by omega, hb, rfl, rfl, rfl, by omega⟩
    case round =>
      obtain ⟨m, k, hm1, hm2, rfl, rfl, hk, hk2⟩ := hrel
      by_cases hlt : 1 < m
      · have hh : Lib.bitLen m.toNat = 1 + Lib.bitLen (m.toNat / 2) := Lib.bitLen_half _ (by omega) (Nat.lt_of_lt_of_le (show m.toNat < 18446744073709551616 by omega) (by decide))
        have he : Lib.bitLen n.toNat = Lib.bitLen (m / 2).toNat + (k + 1) := by
          rw [hk.out, hh, show (m / 2).toNat = m.toNat / 2 by omega]; omega
        have hkk : k + 1 ≤ 63 := by omega
        have He := Lib.hid he
        clear hh he
        go_wp2
        go_round
        case rel => exact ⟨m / 2, k + 1, by omega, by omega, rfl, by go_num, He.out, hkk⟩
        case measure => simp [intOf]; omega
      · obtain rfl : m = 1 := by omega
        go_wp2
        go_ret2
        refine ⟨?_, rfl⟩
        have : Lib.bitLen (1 : Int).toNat = 1 := by decide
        have e9 : ((1 + k : Nat) : Int) - 1 = k := by omega
        rw [E.out.1, E.out.2, hk.out, this, e9]
        rfl

theorem rLeast_any (n : Int) (w : World) (hb : n ≤ 9223372036854775807) :
    Calls Try.prog 28 #[.int .i64 n] w fun e w' => e = .returned (.tuple #[.int .i64 (ls n), .int .i64 (lgE n)]) ∧ w = w' := by
  by_cases h : n < 1
  · have E : Hid (ls n = 0 ∧ lgE n = 2) := Lib.hid (by simp [ls, lgE, h])
    go_enter Try.func28, Try.ntmps28
    go_wp2
    go_ret2
    exact ⟨by rw [E.out.1, E.out.2]; rfl, rfl⟩
  · by_cases h1 : n = 1
    · subst h1
      have E : Hid (ls 1 = 0 ∧ lgE 1 = 0) := Lib.hid (by decide)
      go_enter Try.func28, Try.ntmps28
      go_wp2
      go_ret2
      exact ⟨by rw [E.out.1, E.out.2]; rfl, rfl⟩
    · have E : Hid (ls n = lg (n - 1) + 1 ∧ lgE n = 0) := Lib.hid (by
        have : ¬ (n - 1 < 1) := by omega
        have hne : (n - 1).toNat ≠ 0 := by omega
        have := (bitLen_bounds (n - 1).toNat hne (by omega)).2.2
        refine ⟨?_, by simp [lgE, h]⟩
        unfold ls lg
        rw [if_neg h, if_neg (by omega)]
        omega)
      have d : (n == 1) = false := by simp [h1]
      have hl := bitLen_lt (n - 1).toNat (by omega)
      have hg : 0 ≤ lg (n - 1) ∧ lg (n - 1) ≤ 62 := by
        have hne : (n - 1).toNat ≠ 0 := by omega
        have := (bitLen_bounds (n - 1).toNat hne (by omega)).2.2
        unfold lg; rw [if_neg (by omega)]; omega
      clear h1
      go_enter Try.func28, Try.ntmps28
      go_wp2_with (go_at_call 26; refine (rLog_any _ _ (by omega)).mono ?_; rintro e w' ⟨rfl, rfl⟩)
      go_ret2
      exact ⟨by rw [E.out.1, E.out.2]; rfl, rfl⟩

/-- what Size answers -/
def szE (o : Int) : Int := if o < 0 ∨ 6 < o then 2 else 0
def sz (o : Int) : Int := if o < 0 ∨ 6 < o then 0 else 2 ^ o.toNat
theorem Size_any (o : Int) (w : World) :
    Calls Try.prog 29 #[.int .i64 o] w fun e w' => e = .returned (.tuple #[.int .i64 (sz o), .int .i64 (szE o)]) ∧ w = w' := by
  by_cases h : o < 0 ∨ 6 < o
  · rw [sz, szE, if_pos h, if_pos h]; exact Size_no o w h
  · rw [sz, szE, if_neg h, if_neg h]; exact Size_ok o w (by omega) (by omega)
theorem rSize_any (o : Int) (w : World) :
    Calls Try.prog 30 #[.int .i64 o] w fun e w' => e = .returned (.tuple #[.int .i64 (sz o), .int .i64 (szE o)]) ∧ w = w' := by
  by_cases h : o < 0 ∨ 6 < o
  · have E : Hid (sz o = 0 ∧ szE o = 2) := Lib.hid (by simp [sz, szE, h])
    rcases h with h | h
    all_goals
      go_enter Try.func30, Try.ntmps30
      go_wp2
      go_ret2
      exact ⟨by rw [E.out.1, E.out.2]; rfl, rfl⟩
  · have E : Hid (sz o = 2 ^ o.toNat ∧ szE o = 0) := Lib.hid (by simp [sz, szE, h])
    have h0 : 0 ≤ o := by omega
    have h1 : o ≤ 6 := by omega
    clear h
    go_enter Try.func30, Try.ntmps30
    go_wp2_with (go_at_call 39; refine (rsize_any _ _ h0 h1).mono ?_; rintro e w' ⟨rfl, rfl⟩)
    go_ret2
    exact ⟨by rw [E.out.1, E.out.2]; rfl, rfl⟩
end Go.Proofs.Ytdgeahemjcopkaa
