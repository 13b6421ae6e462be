/- The plain law of OrderWhole: the list that Cut makes is valid and joined, and its frames are all of them. -/
import Derived.Test.YtdgeahemjcopkaaOrdJP
set_option linter.unusedSimpArgs false
set_option linter.unusedVariables false
namespace Go.Proofs.Ytdgeahemjcopkaa

theorem cut_frames : ∀ (n : Nat) (a t : Int), (t - a).toNat ≤ n → a ≤ t → framesOf (cut a t) = (List.range (t - a).toNat).map fun j : Nat => a + (j : Int)
  | 0, a, t, h, hle => by
    have e : t = a := by omega
    rw [cut_end (by omega), e]; simp [framesOf]
  | n + 1, a, t, h, hle => by
    by_cases hlt : a < t
    · obtain ⟨_, h2⟩ := okK_iff.1 (kOf_ok hlt)
      have hp := pow_nat (kOf a t)
      rw [cut_step hlt]
      have ih := cut_frames n (a + 2 ^ kOf a t) t (by omega) (by omega)
      have e : framesOf ((a, (kOf a t : Int)) :: cut (a + 2 ^ kOf a t) t) = blkF (a, (kOf a t : Int)) ++ framesOf (cut (a + 2 ^ kOf a t) t) := rfl
      rw [e, ih]
      have hn : ((2 : Int) ^ kOf a t) = ((2 ^ kOf a t : Nat) : Int) := by simp
      have e2 : (t - a).toNat = 2 ^ kOf a t + (t - (a + 2 ^ kOf a t)).toNat := by omega
      rw [e2, List.range_add, List.map_append, List.map_map]
      simp only [blkF, Int.toNat_natCast]
      congr 1
      apply List.map_congr_left
      intro j _
      simp only [Function.comp]
      omega
    · have e : t = a := by omega
      rw [cut_end hlt, e]; simp [framesOf]

theorem cut_chk {a t : Int} (h0 : 0 ≤ a) (hlt : a < t) (h2 : t ≤ 256) : chk a (kOf a t : Int) = 0 := by
  obtain ⟨h1, h3⟩ := okK_iff.1 (kOf_ok hlt)
  have := kOf_le a t
  simp only [chk, Int.toNat_natCast]
  rw [if_neg (by omega), if_neg (by omega), if_neg (by simpa using h1), if_neg (by omega)]

theorem cut_cl : ∀ (n : Nat) (i : Nat) (en a t : Int), (t - a).toNat ≤ n → 0 ≤ a → t ≤ 256 → en ≤ a → clGo i en (cut a t) = (0, 0)
  | 0, i, en, a, t, h, h0, h1, h2 => by rw [cut_end (by omega)]; rfl
  | n + 1, i, en, a, t, h, h0, h1, h2 => by
    by_cases hlt : a < t
    · have hp := pow_nat (kOf a t)
      rw [cut_step hlt, clGo_go (cut_chk h0 hlt h1) (by dsimp only; omega)]
      dsimp only
      rw [Int.toNat_natCast]
      exact cut_cl n (i + 1) _ _ t (by omega) (by omega) h1 (Int.le_refl _)
    · rw [cut_end hlt]; rfl

theorem kDown_ge {a t : Int} {j : Nat} (h : okK a t j = true) : ∀ k, j ≤ k → j ≤ kDown a t k
  | 0, hk => by simpa [kDown] using hk
  | k + 1, hk => by
    rw [kDown]
    by_cases hc : okK a t (k + 1) = true
    · rw [if_pos hc]; exact hk
    · rw [if_neg hc]
      by_cases e : j = k + 1
      · subst e; exact absurd h hc
      · exact kDown_ge h k (by omega)
theorem kOf_max {a t : Int} {j : Nat} (h6 : j ≤ 6) (h : okK a t j = true) : j ≤ kOf a t := kDown_ge h 6 h6

/-- no block merges with the one ahead of it -/
def NM : List (Int × Int) → Prop
  | x :: y :: l => ¬ (y.2 < 6 ∧ x = (bud y.1 y.2, y.2)) ∧ NM (y :: l)
  | _ => True

theorem half_even {a p : Int} (hp : 1 ≤ p) (h1 : a % p = 0) (h2 : (a + p) % (2 * p) ≠ 0) : a % (2 * p) = 0 := by
  obtain ⟨q, rfl⟩ := Int.dvd_of_emod_eq_zero h1
  have e1 : p * q + p = p * (q + 1) := by rw [Int.mul_add, Int.mul_one]
  have e2 : 2 * p = p * 2 := Int.mul_comm _ _
  rw [e1, e2, Int.mul_emod_mul_of_pos _ _ (by omega)] at h2
  rw [e2, Int.mul_emod_mul_of_pos _ _ (by omega)]
  have : q % 2 = 0 := by
    rcases Int.emod_two_eq q with h | h
    · exact h
    · exfalso; apply h2
      have : (q + 1) % 2 = 0 := by omega
      rw [this, Int.mul_zero]
  rw [this, Int.mul_zero]

theorem cut_nm : ∀ (n : Nat) (a t : Int), (t - a).toNat ≤ n → NM (cut a t)
  | 0, a, t, h => by rw [cut_end (by omega)]; trivial
  | n + 1, a, t, h => by
    by_cases hlt : a < t
    · obtain ⟨z1, z2⟩ := okK_iff.1 (kOf_ok hlt)
      have hp := pow_nat (kOf a t)
      have ih := cut_nm n (a + 2 ^ kOf a t) t (by omega)
      rw [cut_step hlt]
      by_cases hlt2 : a + 2 ^ kOf a t < t
      · rw [cut_step hlt2] at ih ⊢
        refine ⟨?_, ih⟩
        rintro ⟨h6, he⟩
        obtain ⟨y1, y2⟩ := okK_iff.1 (kOf_ok hlt2)
        injection he with e1 e2
        have e3 : kOf a t = kOf (a + 2 ^ kOf a t) t := by omega
        dsimp only at e1 h6
        rw [← e3] at e1
        rw [← e3] at y2
        unfold bud at e1
        rw [Int.toNat_natCast] at e1
        split at e1
        · omega
        · rename_i hz
          have hev := half_even hp z1 hz
          have hok : okK a t (kOf a t + 1) = true := okK_iff.2 ⟨by rw [Int.pow_succ, Int.mul_comm]; exact hev, by rw [Int.pow_succ]; omega⟩
          have := kOf_max (by omega) hok
          omega
      · rw [cut_end hlt2]; trivial
    · rw [cut_end hlt]; trivial

theorem nm_at : ∀ (l : List (Int × Int)) (k : Nat) (h : k + 1 < l.length), NM l → ¬ ((l[k + 1]).2 < 6 ∧ l[k]'(by omega) = (bud (l[k + 1]).1 (l[k + 1]).2, (l[k + 1]).2))
  | x :: y :: l, 0, h, hn => hn.1
  | x :: y :: l, k + 1, h, hn => by
    have := nm_at (y :: l) k (by simpa using h) hn.2
    simpa using this
  | [x], k, h, _ => by simp at h
  | [], k, h, _ => by simp at h

/-- what stands ahead of the k-th block does not take it in -/
theorem nm_stop {l : List (Int × Int)} (hn : NM l) (k : Nat) (hk : k < l.length) : ¬ ((l[k]).2 < 6 ∧ (l.take k).getLast? = some (bud (l[k]).1 (l[k]).2, (l[k]).2)) := by
  rintro ⟨h1, h2⟩
  cases k with
  | zero => simp at h2
  | succ k =>
    refine nm_at l k hk hn ⟨h1, ?_⟩
    rw [take_get l k (by omega), List.getLast?_append] at h2
    simpa using h2
theorem nm_push {l : List (Int × Int)} (hn : NM l) (k : Nat) (hk : k < l.length) (f : Nat) : push f (l.take k) l[k] = l.take (k + 1) := by
  rw [push_stop (nm_stop hn k hk), take_get l k hk]
theorem nm_join {l : List (Int × Int)} (hn : NM l) : ∀ k, k ≤ l.length → joinL (l.take k) = l.take k
  | 0, _ => by simp [joinL]
  | k + 1, hk => by rw [joinL_take l k (by omega), nm_join hn k (by omega), nm_push hn k (by omega)]

theorem joinL_snoc (ps : List (Int × Int)) (b : Int × Int) : joinL (ps ++ [b]) = push 7 (joinL ps) b := by
  unfold joinL; rw [List.foldl_append]; rfl

/-- a block's halves join again -/
theorem nm_halves {l : List (Int × Int)} (hn : NM l) (k : Nat) (hk : k < l.length) (a : Int) (o : Nat) (he : l[k] = (a, (o : Int) + 1)) (hs : Sorted (l.take k) a) (h1 : a % 2 ^ (o + 1) = 0) (h6 : o + 1 ≤ 6) :
    push 7 (push 7 (l.take k) (a, (o : Int))) (a + 2 ^ o, (o : Int)) = l.take (k + 1) := by
  have hp := pow_nat o
  have h1' : a % (2 * 2 ^ o) = 0 := by rw [Int.mul_comm, ← Int.pow_succ]; exact h1
  have hb1 : bud a (o : Int) = a + 2 ^ o := by unfold bud; rw [Int.toNat_natCast, if_pos h1']
  have hz : ¬ (a + 2 ^ o) % (2 * 2 ^ o) = 0 := by
    obtain ⟨q, hq⟩ := Int.dvd_of_emod_eq_zero h1'
    rw [hq, Int.add_comm, Int.add_mul_emod_self_left, Int.emod_eq_of_lt (by omega) (by omega)]
    omega
  have hb2 : bud (a + 2 ^ o) (o : Int) = a := by unfold bud; rw [Int.toNat_natCast, if_neg hz]; omega
  have hp2 : par (a + 2 ^ o) (o : Int) = a := by unfold par; rw [Int.toNat_natCast, if_neg hz]; omega
  rw [push_stop (f := 7) (st := l.take k) (b := (a, (o : Int)))]
  · rw [push_go (f := 6) ⟨by dsimp only; omega, by dsimp only; rw [hb2, List.getLast?_append]; simp⟩]
    dsimp only
    rw [hp2, List.dropLast_concat, ← he]
    exact nm_push hn k hk 6
  · rintro ⟨_, h⟩
    dsimp only at h
    rw [hb1] at h
    have := hs.2 _ (List.mem_of_getLast? h)
    dsimp only at this
    rw [Int.toNat_natCast] at this
    omega

theorem clGo_snoc : ∀ (ps : List (Int × Int)) (i : Nat) (en : Int) (b : Int × Int), (clGo i en ps).1 = 0 → chk b.1 b.2 = 0 → en ≤ b.1 → (∀ x ∈ ps, x.1 + 2 ^ x.2.toNat ≤ b.1) → (clGo i en (ps ++ [b])).1 = 0
  | [], i, en, b, _, h2, h3, _ => by rw [List.nil_append, clGo_go h2 (by omega)]; rfl
  | x :: ps, i, en, b, h1, h2, h3, h4 => by
    rw [List.cons_append]
    by_cases hc : chk x.1 x.2 = 0
    · by_cases ho : x.1 < en
      · rw [clGo_over hc ho] at h1; simp at h1
      · rw [clGo_go hc ho] at h1 ⊢
        exact clGo_snoc ps _ _ b h1 h2 (h4 x (by simp)) (fun y hy => h4 y (by simp [hy]))
    · rw [clGo_bad hc] at h1; exact absurd h1 hc

theorem emod_half {a : Int} {j : Nat} (h : a % 2 ^ (j + 1) = 0) : a % 2 ^ j = 0 := by
  rw [Int.pow_succ] at h
  have h1 : a % (2 ^ j * 2) % 2 ^ j = a % 2 ^ j := Int.emod_emod_of_dvd a ⟨2, rfl⟩
  rw [h] at h1
  simpa using h1.symm

/-- what is left behind the last whole block -/
theorem cut_lenD : ∀ (j : Nat) (a t : Int), j ≤ 6 → a % 2 ^ j = 0 → t - a < 2 ^ j → (cut a t).length ≤ j
  | 0, a, t, _, _, h => by rw [cut_end (by simp at h; omega)]; simp
  | j + 1, a, t, h6, hm, h => by
    have hp := pow_nat j
    have hm' := emod_half hm
    by_cases hs : 2 ^ j ≤ t - a
    · have hk : kOf a t = j := kOf_eq (by omega) (okK_iff.2 ⟨hm', hs⟩) (.inr (by
        rcases Bool.eq_false_or_eq_true (okK a t (j + 1)) with h1 | h1
        · have := (okK_iff.1 h1).2; omega
        · exact h1))
      rw [cut_step (by omega), hk, List.length_cons]
      have := cut_lenD j (a + 2 ^ j) t (by omega) (by rw [Int.add_emod_right]; exact hm') (by rw [Int.pow_succ] at h; omega)
      omega
    · have := cut_lenD j a t (by omega) hm' (by omega)
      omega
theorem cut_lenM : ∀ (n : Nat) (a t : Int), (t - a).toNat ≤ n → a % 64 = 0 → a ≤ t → ((cut a t).length : Int) ≤ 6 + (t - a) / 64
  | n, a, t, hn, hm, hle => by
    by_cases hs : 64 ≤ t - a
    · have hk : kOf a t = 6 := kOf_eq (by omega) (okK_iff.2 ⟨hm, hs⟩) (.inl rfl)
      rw [cut_step (by omega), hk, List.length_cons]
      obtain ⟨m, rfl⟩ : ∃ m, n = m + 1 := ⟨n - 1, by omega⟩
      have := cut_lenM m (a + 64) t (by omega) (by omega) (by omega)
      have e : (a + 2 ^ 6 : Int) = a + 64 := rfl
      rw [e]
      omega
    · have := cut_lenD 6 a t (by omega) hm (by omega)
      omega
theorem odd_up {a p : Int} (hp : 1 ≤ p) (h1 : a % p = 0) (h2 : a % (2 * p) ≠ 0) : (a + p) % (2 * p) = 0 := by
  obtain ⟨q, rfl⟩ := Int.dvd_of_emod_eq_zero h1
  have e1 : p * q + p = p * (q + 1) := by rw [Int.mul_add, Int.mul_one]
  have e2 : 2 * p = p * 2 := Int.mul_comm _ _
  rw [e2, Int.mul_emod_mul_of_pos _ _ (by omega)] at h2
  rw [e1, e2, Int.mul_emod_mul_of_pos _ _ (by omega)]
  have : (q + 1) % 2 = 0 := by
    rcases Int.emod_two_eq q with h | h
    · exfalso; apply h2; rw [h, Int.mul_zero]
    · omega
  rw [this, Int.mul_zero]
theorem cut_lenU : ∀ (i j : Nat) (a t : Int), i + j = 6 → a % 2 ^ j = 0 → a ≤ t → ((cut a t).length : Int) ≤ i + 6 + (t - a) / 64
  | 0, j, a, t, hij, hm, hle => by
    have : j = 6 := by omega
    subst this
    have := cut_lenM (t - a).toNat a t (Nat.le_refl _) hm hle
    omega
  | i + 1, j, a, t, hij, hm, hle => by
    have hp := pow_nat j
    by_cases h2 : a % 2 ^ (j + 1) = 0
    · have := cut_lenU i (j + 1) a t (by omega) h2 hle
      omega
    · by_cases hs : 2 ^ j ≤ t - a
      · have hk : kOf a t = j := kOf_eq (by omega) (okK_iff.2 ⟨hm, hs⟩) (.inr (by
          rcases Bool.eq_false_or_eq_true (okK a t (j + 1)) with h1 | h1
          · exact absurd (okK_iff.1 h1).1 h2
          · exact h1))
        rw [cut_step (by omega), hk, List.length_cons]
        have h3 : (a + 2 ^ j) % 2 ^ (j + 1) = 0 := by
          rw [Int.pow_succ, Int.mul_comm] at h2 ⊢
          exact odd_up hp hm h2
        have := cut_lenU i (j + 1) (a + 2 ^ j) t (by omega) h3 (by omega)
        omega
      · have := cut_lenD j a t (by omega) hm (by omega)
        omega
theorem cut_len (a t : Int) (h : a ≤ t) : ((cut a t).length : Int) ≤ 12 + (t - a) / 64 := by
  have := cut_lenU 6 0 a t (by omega) (by simp) h
  omega

/-- blocks of a list in order, as they stand to what lies ahead -/
theorem cut_facts {a t : Int} (h0 : 0 ≤ a) (h1 : t ≤ 256) : NM (cut a t) ∧ cl (cut a t) = (0, 0) := ⟨cut_nm _ a t (Nat.le_refl _), cut_cl _ 0 0 a t (Nat.le_refl _) h0 h1 h0⟩

/-- what the law keeps while it divides the blocks -/
structure Parts (L ps : List (Int × Int)) (k : Nat) : Prop where
  join : joinL ps = L.take k
  cl : (cl ps).1 = 0
  len : ps.length ≤ 2 * k
  en : ∀ x ∈ ps, x.1 + 2 ^ x.2.toNat ≤ enOf L k

theorem Parts.zero (L : List (Int × Int)) : Parts L [] 0 := ⟨rfl, rfl, Nat.le_refl _, by simp⟩
theorem parts_keep {L ps : List (Int × Int)} {k : Nat} (hn : NM L) (hc : (cl L).1 = 0) (hk : k < L.length) (h : Parts L ps k) : Parts L (ps ++ [L[k]]) (k + 1) := by
  have hv := cl_valid hc _ (List.getElem_mem hk)
  have hge := cl_ge L hc k hk
  have e : enOf L (k + 1) = (L[k]).1 + 2 ^ (L[k]).2.toNat := by simp [enOf, hk]
  have hp := pow_nat (L[k]).2.toNat
  obtain ⟨_, _, b2, _⟩ := chk_zero hv
  refine ⟨?_, ?_, by have := h.len; simp; omega, ?_⟩
  · rw [joinL_snoc, h.join, nm_push hn k hk]
  · exact clGo_snoc ps 0 0 _ h.cl hv b2 (fun x hx => Int.le_trans (h.en x hx) hge)
  · intro x hx
    rw [e]
    rcases List.mem_append.1 hx with hx | hx
    · have := h.en x hx; omega
    · simp at hx; subst hx; exact Int.le_refl _
theorem chk_halves : ∀ o : Fin 6, ∀ n : Fin 257, chk (n.1 : Int) ((o.1 : Int) + 1) = 0 → chk (n.1 : Int) (o.1 : Int) = 0 ∧ chk ((n.1 : Int) + 2 ^ o.1) (o.1 : Int) = 0 := by decide +kernel
theorem parts_halve {L ps : List (Int × Int)} {k : Nat} (hn : NM L) (hc : (cl L).1 = 0) (hk : k < L.length) (a : Int) (o : Nat) (he : L[k] = (a, (o : Int) + 1)) (h : Parts L ps k) :
    Parts L (ps ++ [(a, (o : Int)), (a + 2 ^ o, (o : Int))]) (k + 1) := by
  have hv := cl_valid hc _ (List.getElem_mem hk)
  have hge := cl_ge L hc k hk
  have e : enOf L (k + 1) = (L[k]).1 + 2 ^ (L[k]).2.toNat := by simp [enOf, hk]
  rw [he] at hv hge e
  dsimp only at hv hge e
  obtain ⟨b0, b1, b2, b3, b4⟩ := chk_zero hv
  have hp := pow_nat o
  have hp2 : (2 : Int) ^ (o + 1) = 2 ^ o * 2 := Int.pow_succ 2 o
  have ht : ((o : Int) + 1).toNat = o + 1 := by omega
  rw [ht] at e b3 b4
  have hb4 : a < 257 := by have := pow_bd ((o : Int) + 1) b0 b1; rw [ht] at this; omega
  obtain ⟨n, rfl⟩ := Int.eq_ofNat_of_zero_le b2
  obtain ⟨c1, c2⟩ := chk_halves ⟨o, by omega⟩ ⟨n, by omega⟩ hv
  dsimp only at c1 c2
  have hs : Sorted (L.take k) (n : Int) := by
    have := join_sorted L hc k (by omega)
    rw [nm_join hn k (by omega)] at this
    exact sorted_mono this hge
  have f1 : (cl (ps ++ [((n : Int), (o : Int))])).1 = 0 := clGo_snoc ps 0 0 _ h.cl c1 b2 (fun x hx => Int.le_trans (h.en x hx) hge)
  refine ⟨?_, ?_, by have := h.len; simp; omega, ?_⟩
  · have e3 : ps ++ [((n : Int), (o : Int)), ((n : Int) + 2 ^ o, (o : Int))] = (ps ++ [((n : Int), (o : Int))]) ++ [((n : Int) + 2 ^ o, (o : Int))] := by simp
    rw [e3, joinL_snoc, joinL_snoc, h.join]
    exact nm_halves hn k hk _ o he hs b3 (by omega)
  · have e3 : ps ++ [((n : Int), (o : Int)), ((n : Int) + 2 ^ o, (o : Int))] = (ps ++ [((n : Int), (o : Int))]) ++ [((n : Int) + 2 ^ o, (o : Int))] := by simp
    rw [e3]
    refine clGo_snoc _ 0 0 _ f1 c2 (by dsimp only; omega) (fun x hx => ?_)
    rcases List.mem_append.1 hx with hx | hx
    · have := h.en x hx; dsimp only; omega
    · simp at hx; subst hx; simp
  · intro x hx
    rw [e]
    rcases List.mem_append.1 hx with hx | hx
    · have := h.en x hx; omega
    · simp at hx
      rcases hx with rfl | rfl
      · simp; omega
      · simp; omega
end Go.Proofs.Ytdgeahemjcopkaa
