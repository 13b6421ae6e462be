/- Shares: what they add up to, and what Fair takes; plain. -/
import Derived.Test.YtpkiabhlmjnemaaShrL
import Derived.Test.YtpkiabhlmjnemaaShrU
namespace Go.Proofs.Ytpkiabhlmjnemaa
set_option linter.unusedSimpArgs false
set_option linter.unusedVariables false

/-- one share: between nothing and what there is, less than one from the proportion -/
structure Shr1 (m n k s : Int) : Prop where
  s0 : 0 ≤ s
  s1 : s ≤ k
  lo : ¬ n * k ≤ (s - 1) * m
  hi : ¬ (s + 1) * m ≤ n * k
theorem shr1_of {m n k q r d : Int} (hm : 0 < m) (hn : n ≤ m) (hk : 0 ≤ k) (q0 : 0 ≤ q) (q1 : q ≤ k) (r0 : 0 ≤ r) (r1 : r < m) (e : n * k = m * q + r) (hd : d = 0 ∨ (d = 1 ∧ 0 < r)) : Shr1 m n k (q + d) := by
  have hnk : n * k ≤ m * k := Int.mul_le_mul_of_nonneg_right hn hk
  rcases hd with rfl | ⟨rfl, hr⟩
  · refine ⟨by omega, by omega, ?_, ?_⟩
    · have : (q + 0 - 1) * m = m * q - m := by rw [Int.add_zero, Int.sub_mul, Int.one_mul, Int.mul_comm]
      omega
    · have : (q + 0 + 1) * m = m * q + m := by rw [Int.add_zero, Int.add_mul, Int.one_mul, Int.mul_comm]
      omega
  · refine ⟨by omega, ?_, ?_, ?_⟩
    · have h1 : m * q < m * k := by omega
      have := Int.lt_of_mul_lt_mul_left h1 (by omega)
      omega
    · have : (q + 1 - 1) * m = m * q := by rw [Int.add_sub_cancel, Int.mul_comm]
      omega
    · have : (q + 1 + 1) * m = m * q + m + m := by rw [Int.add_mul, Int.add_mul, Int.one_mul, Int.mul_comm]
      omega

theorem shr_facts {l : List O} (hv : Vl l) (h0 : 0 < l.length) {n : Int} (hn : 0 ≤ n) : ∃ a b c, shrs l n = [a, b, c] ∧ a + b + c = nn l n ∧ Shr1 l.length (nn l n) (kc l 1) a ∧ Shr1 l.length (nn l n) (kc l 2) b ∧ Shr1 l.length (nn l n) (kc l 3) c := by
  have hs := shr_of hv h0 hn
  have e : shrs l n = shr3 (sq l n 1) (sq l n 2) (sq l n 3) (sr l n 1) (sr l n 2) (sr l n 3) (lf l n) := by unfold shrs; rw [if_neg (by omega)]
  have hm : (0 : Int) < l.length := by omega
  have u := fun j d hd => shr1_of (d := d) hm hs.n1 (kc_bd l j).1 (hs.q0 j) (hs.q1 j) (hs.r0 j) (hs.r1 j) (hs.e j) hd
  have hsum := hs.sum
  have hlf : lf l n = nn l n - sq l n 1 - sq l n 2 - sq l n 3 := rfl
  have a1 := hs.r0 1; have a2 := hs.r0 2; have a3 := hs.r0 3
  have b1 := hs.r1 1; have b2 := hs.r1 2; have b3 := hs.r1 3
  refine ⟨_, _, _, e, ?_, u 1 _ ?_, u 2 _ ?_, u 3 _ ?_⟩
  all_goals
    clear u e
    generalize sr l n 1 = R1 at *
    generalize sr l n 2 = R2 at *
    generalize sr l n 3 = R3 at *
    generalize sq l n 1 = Q1 at *
    generalize sq l n 2 = Q2 at *
    generalize sq l n 3 = Q3 at *
    rcases hs.left with hl | hl | hl <;> rw [hl] at hsum hlf ⊢ <;> by_cases c12 : R1 < R2 <;> by_cases c13 : R1 < R3 <;> by_cases c23 : R2 < R3 <;> simp [mo, rk1, rk2, rk3, c12, c13, c23] <;> omega

theorem kc_cons (o : O) (l : List O) (j : Int) : kc (o :: l) j = kc l j + if o.1 = j then 1 else 0 := by
  unfold kc
  by_cases h : o.1 = j <;> simp [h]
theorem fr_count : ∀ (l : List O) (a b c : Int), (∀ o ∈ l, oneE o = 0) → 0 ≤ a → a ≤ kc l 1 → 0 ≤ b → b ≤ kc l 2 → 0 ≤ c → c ≤ kc l 3 → ((fr a b c l).length : Int) = a + b + c
  | [], a, b, c, _, a0, a1, b0, b1, c0, c1 => by simp [kc] at a1 b1 c1; simp [fr]; omega
  | o :: r, a, b, c, hv, a0, a1, b0, b1, c0, c1 => by
    have ih := fun a b c => fr_count r a b c (fun x hx => hv x (by simp [hx]))
    rw [kc_cons] at a1 b1 c1
    rcases kind3 (hv o (by simp)) with h | h | h <;> simp only [h, Int.reduceEq, if_true, if_false] at a1 b1 c1 <;> simp only [fr, h, Int.reduceEq, if_true, if_false]
    · split
      · have := ih (a - 1) b c (by omega) (by omega) b0 (by omega) c0 (by omega)
        simp; omega
      · exact ih a b c a0 (by have := kc_bd r 1; omega) b0 (by omega) c0 (by omega)
    · split
      · have := ih a (b - 1) c a0 (by omega) (by omega) (by omega) c0 (by omega)
        simp; omega
      · exact ih a b c a0 (by omega) b0 (by have := kc_bd r 2; omega) c0 (by omega)
    · split
      · have := ih a b (c - 1) a0 (by omega) b0 (by omega) (by omega) (by omega)
        simp; omega
      · exact ih a b c a0 (by omega) b0 (by omega) c0 (by have := kc_bd r 3; omega)

/-- with one kind alone -/
theorem kc_one {l : List O} {j : Int} (h : ∀ o ∈ l, o.1 = j) (i : Int) : kc l i = if j = i then (l.length : Int) else 0 := by
  induction l with
  | nil => simp [kc]
  | cons o l ih =>
    rw [kc_cons, ih (fun x hx => h x (by simp [hx])), h o (by simp)]
    by_cases hji : j = i <;> simp [hji]
theorem fr_one1 : ∀ (l : List O) (n : Nat), (∀ o ∈ l, o.1 = 1) → fr n 0 0 l = l.take n
  | [], n, _ => by simp [fr]
  | o :: r, 0, h => by
    have ih := fr_one1 r 0 (fun x hx => h x (by simp [hx]))
    simp only [fr, h o (by simp), if_true]
    simpa using ih
  | o :: r, n + 1, h => by
    have ih := fr_one1 r n (fun x hx => h x (by simp [hx]))
    have e : ((n + 1 : Nat) : Int) - 1 = n := by omega
    simp only [fr, h o (by simp), if_true, e]
    rw [if_pos (by omega), ih]; rfl
theorem fr_one2 : ∀ (l : List O) (n : Nat), (∀ o ∈ l, o.1 = 2) → fr 0 n 0 l = l.take n
  | [], n, _ => by simp [fr]
  | o :: r, 0, h => by
    have ih := fr_one2 r 0 (fun x hx => h x (by simp [hx]))
    simp only [fr, h o (by simp), Int.reduceEq, if_true, if_false]
    simpa using ih
  | o :: r, n + 1, h => by
    have ih := fr_one2 r n (fun x hx => h x (by simp [hx]))
    have e : ((n + 1 : Nat) : Int) - 1 = n := by omega
    simp only [fr, h o (by simp), Int.reduceEq, if_true, if_false, e]
    rw [if_pos (by omega), ih]; rfl
theorem fr_one3 : ∀ (l : List O) (n : Nat), (∀ o ∈ l, o.1 = 3) → fr 0 0 n l = l.take n
  | [], n, _ => by simp [fr]
  | o :: r, 0, h => by
    have ih := fr_one3 r 0 (fun x hx => h x (by simp [hx]))
    simp only [fr, h o (by simp), Int.reduceEq, if_true, if_false]
    simpa using ih
  | o :: r, n + 1, h => by
    have ih := fr_one3 r n (fun x hx => h x (by simp [hx]))
    have e : ((n + 1 : Nat) : Int) - 1 = n := by omega
    simp only [fr, h o (by simp), Int.reduceEq, if_true, if_false, e]
    rw [if_pos (by omega), ih]; rfl
theorem fair_one {l : List O} (hv : Vl l) {j : Int} (h : ∀ o ∈ l, o.1 = j) (hj : j = 1 ∨ j = 2 ∨ j = 3) (n : Nat) : fairL l n = l.take n := by
  rcases Nat.eq_zero_or_pos l.length with h0 | h0
  · have : l = [] := List.eq_nil_of_length_eq_zero h0
    subst this
    have e : fairL [] (n : Int) = fr 0 0 0 [] := rfl
    rw [e]; simp [fr]
  obtain ⟨a, b, c, hs, hsum, s1, s2, s3⟩ := shr_facts hv h0 (n := n) (by omega)
  have k1 := kc_one h 1; have k2 := kc_one h 2; have k3 := kc_one h 3
  have p1 := s1.s0; have p2 := s2.s0; have p3 := s3.s0
  have t1 := s1.s1; have t2 := s2.s1; have t3 := s3.s1
  have hnn : nn l n = ((min n l.length : Nat) : Int) := by unfold nn; split <;> omega
  have htk : l.take (min n l.length) = l.take n := by
    by_cases hh : n ≤ l.length
    · rw [Nat.min_eq_left hh]
    · rw [Nat.min_eq_right (by omega), List.take_of_length_le (by omega), List.take_of_length_le (by omega)]
  unfold fairL
  rw [hs]
  dsimp only
  rcases hj with rfl | rfl | rfl
  · simp at k1 k2 k3
    have e2 : b = 0 := by omega
    have e3 : c = 0 := by omega
    have e1 : a = ((min n l.length : Nat) : Int) := by omega
    rw [e1, e2, e3, fr_one1 _ _ h, htk]
  · simp at k1 k2 k3
    have e2 : a = 0 := by omega
    have e3 : c = 0 := by omega
    have e1 : b = ((min n l.length : Nat) : Int) := by omega
    rw [e1, e2, e3, fr_one2 _ _ h, htk]
  · simp at k1 k2 k3
    have e2 : a = 0 := by omega
    have e3 : b = 0 := by omega
    have e1 : c = ((min n l.length : Nat) : Int) := by omega
    rw [e1, e2, e3, fr_one3 _ _ h, htk]
end Go.Proofs.Ytpkiabhlmjnemaa
