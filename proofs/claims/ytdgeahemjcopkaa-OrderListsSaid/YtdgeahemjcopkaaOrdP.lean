/- The plain law of cutting frames into blocks: what both Cuts compute. -/
import Derived.Test.YtdgeahemjcopkaaBits
set_option linter.unusedSimpArgs false
set_option linter.unusedVariables false
namespace Go.Proofs.Ytdgeahemjcopkaa

/-- a block of order k at frame a is aligned and ends at t or ahead of it -/
def okK (a t : Int) (k : Nat) : Bool := decide (a % 2 ^ k = 0 ∧ 2 ^ k ≤ t - a)
def kDown (a t : Int) : Nat → Nat
  | 0 => 0
  | k + 1 => if okK a t (k + 1) then k + 1 else kDown a t k
def kOf (a t : Int) : Nat := kDown a t 6
def cutL : Nat → Int → Int → List (Int × Int)
  | 0, _, _ => []
  | f + 1, a, t => if a < t then (a, (kOf a t : Int)) :: cutL f (a + 2 ^ kOf a t) t else []
def cut (a t : Int) : List (Int × Int) := cutL (t - a).toNat a t

theorem kDown_le (a t : Int) : ∀ k, kDown a t k ≤ k
  | 0 => Nat.le_refl _
  | k + 1 => by unfold kDown; split; exact Nat.le_refl _; exact Nat.le_succ_of_le (kDown_le a t k)
theorem kOf_le (a t : Int) : kOf a t ≤ 6 := kDown_le a t 6

theorem pow_nat (k : Nat) : (1 : Int) ≤ 2 ^ k := by
  have : (1 : Nat) ≤ 2 ^ k := Nat.one_le_two_pow
  have h : ((2 : Int) ^ k) = ((2 ^ k : Nat) : Int) := by simp
  omega

theorem okK_zero {a t : Int} (h : a < t) : okK a t 0 = true := by simp [okK]; omega
theorem kDown_at {a t : Int} : ∀ k, okK a t k = true → kDown a t k = k
  | 0, _ => rfl
  | k + 1, hk => by unfold kDown; rw [if_pos hk]
theorem kDown_not {a t : Int} {k : Nat} (hk : okK a t (k + 1) = false) : kDown a t (k + 1) = kDown a t k := by
  rw [kDown, if_neg (by simp [hk])]
theorem kDown_ok {a t : Int} (h : a < t) : ∀ k, okK a t (kDown a t k) = true
  | 0 => okK_zero h
  | k + 1 => by
    unfold kDown
    split
    · assumption
    · exact kDown_ok h k
theorem kOf_ok {a t : Int} (h : a < t) : okK a t (kOf a t) = true := kDown_ok h 6

theorem okK_iff {a t : Int} {k : Nat} : okK a t k = true ↔ a % 2 ^ k = 0 ∧ 2 ^ k ≤ t - a := by simp [okK]

theorem okK_down {a t : Int} {k : Nat} (h : okK a t (k + 1) = true) : okK a t k = true := by
  rw [okK_iff] at h ⊢
  have hp := pow_nat k
  have e : (2 : Int) ^ (k + 1) = 2 ^ k * 2 := Int.pow_succ 2 k
  rw [e] at h
  refine ⟨?_, by omega⟩
  have h1 : a % (2 ^ k * 2) % 2 ^ k = a % 2 ^ k := Int.emod_emod_of_dvd a ⟨2, rfl⟩
  rw [h.1] at h1
  simpa using h1.symm

theorem kDown_above {a t : Int} {k : Nat} (hn : okK a t (k + 1) = false) : ∀ j, kDown a t (k + j) = kDown a t k
  | 0 => rfl
  | j + 1 => by
    have : okK a t (k + j + 1) = false := by
      rcases Bool.eq_false_or_eq_true (okK a t (k + j + 1)) with h | h
      · exfalso
        have : ∀ i, okK a t (k + 1 + i) = true → okK a t (k + 1) = true := by
          intro i
          induction i with
          | zero => exact id
          | succ i ih => exact fun h => ih (okK_down h)
        have h2 := this j (by rw [show k + 1 + j = k + j + 1 by omega]; exact h)
        rw [hn] at h2; cases h2
      · exact h
    have e : k + (j + 1) = k + j + 1 := rfl
    rw [e, kDown_not this, kDown_above hn j]

theorem kOf_eq {a t : Int} {k : Nat} (h6 : k ≤ 6) (hk : okK a t k = true) (hn : k = 6 ∨ okK a t (k + 1) = false) : kOf a t = k := by
  unfold kOf
  rcases hn with rfl | hn
  · exact kDown_at 6 hk
  · have := kDown_above hn (6 - k)
    rw [show k + (6 - k) = 6 by omega] at this
    rw [this, kDown_at k hk]

theorem cutL_irr : ∀ (f g : Nat) (a t : Int), (t - a).toNat ≤ f → (t - a).toNat ≤ g → cutL f a t = cutL g a t
  | 0, 0, _, _, _, _ => rfl
  | 0, g + 1, a, t, h, _ => by rw [cutL, cutL, if_neg (by omega)]
  | f + 1, 0, a, t, _, h => by rw [cutL, cutL, if_neg (by omega)]
  | f + 1, g + 1, a, t, h, k => by
    have hp := pow_nat (kOf a t)
    rw [cutL, cutL]
    by_cases hl : a < t
    · rw [if_pos hl, if_pos hl, cutL_irr f g _ _ (by omega) (by omega)]
    · rw [if_neg hl, if_neg hl]

theorem cut_end {a t : Int} (h : ¬ a < t) : cut a t = [] := by
  unfold cut
  rw [show (t - a).toNat = 0 by omega, cutL]
theorem cut_step {a t : Int} (h : a < t) : cut a t = (a, (kOf a t : Int)) :: cut (a + 2 ^ kOf a t) t := by
  have hp := pow_nat (kOf a t)
  obtain ⟨n, hn⟩ : ∃ n, (t - a).toNat = n + 1 := ⟨(t - a).toNat - 1, by omega⟩
  unfold cut
  rw [hn, cutL, if_pos h, cutL_irr n (t - (a + 2 ^ kOf a t)).toNat _ _ (by omega) (Nat.le_refl _)]
end Go.Proofs.Ytdgeahemjcopkaa
