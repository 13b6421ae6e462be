/- Zones of blocks: what the checks say, in plain words. -/
import Derived.Test.YtacfipmigkbncaaBdC
namespace Go.Proofs.Ytacfipmigkbncaa
open Go.RowKit
set_option linter.unusedSimpArgs false
set_option linter.unusedVariables false

abbrev Bi := Int × Int
def encBk (b : Bi) : List D := [.int .i64 b.1, .int .i64 b.2]
theorem encBke : Enc encBk 2 := ⟨fun _ => rfl, fun x d hd => by simp only [encBk, List.mem_cons, List.not_mem_nil, or_false] at hd; rcases hd with rfl | rfl <;> rfl⟩
abbrev dK (l : List Bi) : AV := .d (.sl (l.map encBk))
abbrev kv (b : Bi) : AV := .agg [iv b.1, iv b.2]
abbrev zv (n : Int) (l : List Bi) : AV := .agg [iv n, dK l]

/-- one block's own error -/
def oneB (n : Int) (b : Bi) : Int := if b.2 < 0 ∨ 6 < b.2 then 2 else if b.1 < 0 ∨ n - 2 ^ b.2.toNat < b.1 then 2 else if b.1 % 2 ^ b.2.toNat ≠ 0 then 13 else 0
/-- the error of a block behind another one -/
def twoB (p b : Bi) : Int := if b.1 < p.1 + 2 ^ p.2.toNat then 8 else if b.2 < 6 ∧ p.2 = b.2 ∧ p.1 + 2 ^ b.2.toNat = b.1 ∧ p.1 % (2 * 2 ^ b.2.toNat) = 0 then 7 else 0
def bgo (n : Int) : Option Bi → Nat → List Bi → Int × Int
  | _, _, [] => (0, 0)
  | p, i, b :: r => if oneB n b ≠ 0 then (oneB n b, i) else match p with
    | none => bgo n (some b) (i + 1) r
    | some q => if twoB q b ≠ 0 then (twoB q b, i) else bgo n (some b) (i + 1) r
/-- the first error of a zone, and where -/
def zchk (n : Int) (l : List Bi) : Int × Int := if n < 0 ∨ 256 < n then (2, 0) else bgo n none 0 l

theorem bgo_one {n : Int} {p : Option Bi} {i : Nat} {b : Bi} {r : List Bi} (h : oneB n b ≠ 0) : bgo n p i (b :: r) = (oneB n b, (i : Int)) := by unfold bgo; rw [if_pos h]
theorem bgo_fst {n : Int} {i : Nat} {b : Bi} {r : List Bi} (h : oneB n b = 0) : bgo n none i (b :: r) = bgo n (some b) (i + 1) r := by rw [bgo, if_neg (by simpa using h)]
theorem bgo_two {n : Int} {q : Bi} {i : Nat} {b : Bi} {r : List Bi} (h : oneB n b = 0) (h2 : twoB q b ≠ 0) : bgo n (some q) i (b :: r) = (twoB q b, (i : Int)) := by rw [bgo, if_neg (by simpa using h)]; simp only [if_pos h2]
theorem bgo_go {n : Int} {q : Bi} {i : Nat} {b : Bi} {r : List Bi} (h : oneB n b = 0) (h2 : twoB q b = 0) : bgo n (some q) i (b :: r) = bgo n (some b) (i + 1) r := by rw [bgo, if_neg (by simpa using h)]; simp only [h2, ne_eq, not_true_eq_false, if_false]

theorem oneB_ord {n : Int} {b : Bi} (h : b.2 < 0 ∨ 6 < b.2) : oneB n b = 2 := by simp [oneB, h]
theorem oneB_rng {n : Int} {b : Bi} (h : ¬ (b.2 < 0 ∨ 6 < b.2)) (h2 : b.1 < 0 ∨ n - 2 ^ b.2.toNat < b.1) : oneB n b = 2 := by rw [oneB, if_neg h, if_pos h2]
theorem oneB_al {n : Int} {b : Bi} (h : ¬ (b.2 < 0 ∨ 6 < b.2)) (h2 : ¬ (b.1 < 0 ∨ n - 2 ^ b.2.toNat < b.1)) (h3 : b.1 % 2 ^ b.2.toNat ≠ 0) : oneB n b = 13 := by rw [oneB, if_neg h, if_neg h2, if_pos h3]
theorem oneB_ok {n : Int} {b : Bi} (h : ¬ (b.2 < 0 ∨ 6 < b.2)) (h2 : ¬ (b.1 < 0 ∨ n - 2 ^ b.2.toNat < b.1)) (h3 : b.1 % 2 ^ b.2.toNat = 0) : oneB n b = 0 := by rw [oneB, if_neg h, if_neg h2, if_neg (by simpa using h3)]
theorem oneB_zero {n : Int} {b : Bi} (h : oneB n b = 0) : (0 ≤ b.2 ∧ b.2 ≤ 6) ∧ (0 ≤ b.1 ∧ b.1 ≤ n - 2 ^ b.2.toNat) ∧ b.1 % 2 ^ b.2.toNat = 0 := by
  unfold oneB at h
  split at h
  · cases h
  · split at h
    · cases h
    · split at h
      · cases h
      · rename_i h1 h2 h3
        exact ⟨by omega, by omega, by simpa using h3⟩
theorem twoB_ord {p b : Bi} (h : b.1 < p.1 + 2 ^ p.2.toNat) : twoB p b = 8 := by rw [twoB, if_pos h]
theorem twoB_ex {p b : Bi} (h : ¬ b.1 < p.1 + 2 ^ p.2.toNat) (h2 : b.2 < 6 ∧ p.2 = b.2 ∧ p.1 + 2 ^ b.2.toNat = b.1 ∧ p.1 % (2 * 2 ^ b.2.toNat) = 0) : twoB p b = 7 := by rw [twoB, if_neg h, if_pos h2]
theorem twoB_ok {p b : Bi} (h : ¬ b.1 < p.1 + 2 ^ p.2.toNat) (h2 : ¬ (b.2 < 6 ∧ p.2 = b.2 ∧ p.1 + 2 ^ b.2.toNat = b.1 ∧ p.1 % (2 * 2 ^ b.2.toNat) = 0)) : twoB p b = 0 := by rw [twoB, if_neg h, if_neg h2]
theorem twoB_zero {p b : Bi} (h : twoB p b = 0) : p.1 + 2 ^ p.2.toNat ≤ b.1 ∧ ¬ (b.2 < 6 ∧ p.2 = b.2 ∧ p.1 + 2 ^ b.2.toNat = b.1 ∧ p.1 % (2 * 2 ^ b.2.toNat) = 0) := by
  unfold twoB at h
  split at h
  · cases h
  · split at h
    · cases h
    · rename_i h1 h2; exact ⟨by omega, h2⟩

/-- the block ahead of the i-th -/
def prv (l : List Bi) : Nat → Option Bi
  | 0 => none
  | i + 1 => l[i]?
/-- what is known of the first i blocks -/
structure Pre (n : Int) (l : List Bi) (i : Nat) : Prop where
  one : ∀ j (h : j < l.length), j < i → oneB n l[j] = 0
  asc : ∀ j k (h : k < l.length) (hj : j < k), k < i → (l[j]).1 + 2 ^ (l[j]).2.toNat ≤ (l[k]).1
  nb : ∀ j (h : j + 1 < l.length), j + 1 < i → twoB l[j] l[j + 1] = 0
theorem Pre.zero (n : Int) (l : List Bi) : Pre n l 0 := ⟨fun j _ h => by omega, fun j k _ _ h => by omega, fun j _ h => by omega⟩
theorem pow1 (k : Nat) : (1 : Int) ≤ 2 ^ k := by
  have h := Nat.pos_of_ne_zero (n := 2 ^ k) (by simp)
  have e : (2 : Int) ^ k = ((2 ^ k : Nat) : Int) := by simp
  omega
theorem Pre.fst {n : Int} {l : List Bi} (h0 : 0 < l.length) (h : oneB n l[0] = 0) : Pre n l 1 := by
  refine ⟨fun j hj hj1 => ?_, fun j k _ hj hk => by omega, fun j _ hj => by omega⟩
  obtain rfl : j = 0 := by omega
  exact h
theorem Pre.step {n : Int} {l : List Bi} {i : Nat} (hp : Pre n l (i + 1)) (hi : i + 1 < l.length) (h : oneB n l[i + 1] = 0) (h2 : twoB (l[i]'(by omega)) l[i + 1] = 0) : Pre n l (i + 2) := by
  obtain ⟨h3, _⟩ := twoB_zero h2
  refine ⟨fun j hj hji => ?_, fun j k hk hj hki => ?_, fun j hj hji => ?_⟩
  · by_cases e : j = i + 1
    · subst e; exact h
    · exact hp.one j hj (by omega)
  · by_cases e : k = i + 1
    · subst e
      by_cases e2 : j = i
      · subst e2; exact h3
      · have h4 := hp.asc j i (by omega) (by omega) (by omega)
        have := pow1 (l[i]'(by omega)).2.toNat
        omega
    · exact hp.asc j k hk hj (by omega)
  · by_cases e : j = i
    · subst e; exact h2
    · exact hp.nb j hj (by omega)

/-- a valid zone, in numbers -/
structure Zi (n : Int) (l : List Bi) : Prop where
  n0 : 0 ≤ n
  n1 : n ≤ 256
  pre : Pre n l l.length
theorem bgo_pre {n : Int} {l : List Bi} : ∀ (m i : Nat), l.length - i ≤ m → i ≤ l.length → Pre n l i → (bgo n (prv l i) i (l.drop i)).1 = 0 → Pre n l l.length
  | 0, i, hm, hi, hp, _ => by
    have : i = l.length := by omega
    exact this ▸ hp
  | m + 1, i, hm, hi, hp, h => by
    by_cases hlt : i < l.length
    · rw [drop_get l i hlt] at h
      by_cases h1 : oneB n l[i] = 0
      · cases i with
        | zero =>
          rw [prv, bgo_fst h1] at h
          refine bgo_pre m 1 (by omega) (by omega) (Pre.fst hlt h1) ?_
          simpa [prv, List.getElem?_eq_getElem hlt] using h
        | succ i =>
          have hi' : i < l.length := by omega
          rw [prv, List.getElem?_eq_getElem hi'] at h
          by_cases h2 : twoB l[i] l[i + 1] = 0
          · rw [bgo_go h1 h2] at h
            refine bgo_pre m (i + 2) (by omega) (by omega) (hp.step hlt h1 h2) ?_
            simpa [prv, List.getElem?_eq_getElem hlt] using h
          · rw [bgo_two h1 h2] at h; exact absurd h h2
      · rw [bgo_one h1] at h; exact absurd h h1
    · have : i = l.length := by omega
      exact this ▸ hp
theorem zchk_val {n : Int} {l : List Bi} (h : (zchk n l).1 = 0) : Zi n l := by
  unfold zchk at h
  split at h
  · cases h
  · rename_i hn
    exact ⟨by omega, by omega, bgo_pre l.length 0 (by omega) (Nat.zero_le _) (Pre.zero n l) (by simpa [prv] using h)⟩
theorem bgo_val {n : Int} {l : List Bi} (hp : Pre n l l.length) : ∀ (m i : Nat), l.length - i ≤ m → i ≤ l.length → bgo n (prv l i) i (l.drop i) = (0, 0)
  | 0, i, hm, hi => by
    rw [List.drop_eq_nil_of_le (by omega)]; cases prv l i <;> rfl
  | m + 1, i, hm, hi => by
    by_cases hlt : i < l.length
    · rw [drop_get l i hlt]
      have h1 := hp.one i hlt hlt
      cases i with
      | zero =>
        rw [prv, bgo_fst h1]
        have := bgo_val hp m 1 (by omega) (by omega)
        simpa [prv, List.getElem?_eq_getElem hlt] using this
      | succ i =>
        have hi' : i < l.length := by omega
        rw [prv, List.getElem?_eq_getElem hi', bgo_go h1 (hp.nb i hlt hlt)]
        have := bgo_val hp m (i + 2) (by omega) (by omega)
        simpa [prv, List.getElem?_eq_getElem hlt] using this
    · rw [List.drop_eq_nil_of_le (by omega)]; cases prv l i <;> rfl
theorem val_zchk {n : Int} {l : List Bi} (h : Zi n l) : zchk n l = (0, 0) := by
  unfold zchk
  rw [if_neg (by have := h.n0; have := h.n1; omega)]
  have := bgo_val h.pre l.length 0 (by omega) (Nat.zero_le _)
  simpa [prv] using this

theorem and_low (a : Int) (k : Nat) (h0 : 0 ≤ a) (h1 : a ≤ 256) (h6 : k ≤ 6) : bits .and .i64 a (2 ^ k - 1) = a % 2 ^ k := by
  obtain ⟨n, rfl⟩ := Int.eq_ofNat_of_zero_le h0
  have : ∀ k : Fin 7, ∀ n : Fin 257, bits .and .i64 (n.1 : Int) (2 ^ k.1 - 1) = (n.1 : Int) % 2 ^ k.1 := by decide +kernel
  exact this ⟨k, by omega⟩ ⟨n, by omega⟩
theorem xor_i (a : Int) (k : Nat) (h0 : 0 ≤ a) (h1 : a ≤ 256) (h6 : k < 6) (hm : a % 2 ^ k = 0) : bits .xor .i64 a (2 ^ k) = if a % (2 * 2 ^ k) = 0 then a + 2 ^ k else a - 2 ^ k := by
  obtain ⟨n, rfl⟩ := Int.eq_ofNat_of_zero_le h0
  have : ∀ k : Fin 6, ∀ n : Fin 257, (n.1 : Int) % 2 ^ k.1 = 0 → bits .xor .i64 (n.1 : Int) (2 ^ k.1) = if (n.1 : Int) % (2 * 2 ^ k.1) = 0 then (n.1 : Int) + 2 ^ k.1 else (n.1 : Int) - 2 ^ k.1 := by decide +kernel
  exact this ⟨k, by omega⟩ ⟨n, by omega⟩ hm
theorem pow64 (o : Int) (h0 : 0 ≤ o) (h6 : o ≤ 6) : (1 : Int) ≤ 2 ^ o.toNat ∧ (2 : Int) ^ o.toNat ≤ 64 := by
  have := pow_le ⟨o.toNat, by omega⟩
  exact ⟨this.1, this.2.1⟩
end Go.Proofs.Ytacfipmigkbncaa
