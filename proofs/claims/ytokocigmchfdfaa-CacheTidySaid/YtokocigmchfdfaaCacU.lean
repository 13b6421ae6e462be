/- The plain law of tidying: it ends, the number of objects stays, its moves are real. -/
import Derived.Test.YtokocigmchfdfaaCacQ
import Derived.Test.YtokocigmchfdfaaCacJ
set_option linter.unusedSimpArgs false
set_option linter.unusedVariables false
namespace Go.Proofs.Ytokocigmchfdfaa

def wsum : Nat → List (Int × Int) → Int
  | _, [] => 0
  | k, s :: l => (k : Int) * oc s.2 + wsum (k + 1) l
theorem wsum_nn : ∀ (c : List (Int × Int)) (k : Nat), (∀ s ∈ c, 0 ≤ oc s.2) → 0 ≤ wsum k c
  | [], _, _ => Int.le_refl _
  | s :: l, k, h => by
    have h1 := wsum_nn l (k + 1) (fun x hx => h x (by simp [hx]))
    have h2 := Int.mul_nonneg (show (0 : Int) ≤ k by omega) (h s (by simp))
    simp only [wsum]; omega
theorem wsum_mono : ∀ (c : List (Int × Int)) (k : Nat), (∀ s ∈ c, 0 ≤ oc s.2) → wsum k c ≤ wsum (k + 1) c
  | [], _, _ => Int.le_refl _
  | s :: l, k, h => by
    have h1 := wsum_mono l (k + 1) (fun x hx => h x (by simp [hx]))
    have h2 := h s (by simp)
    have e : ((k + 1 : Nat) : Int) * oc s.2 = (k : Int) * oc s.2 + oc s.2 := by rw [Int.natCast_add, Int.add_mul]; simp
    simp only [wsum, e]; omega
theorem wsum_set : ∀ (c : List (Int × Int)) (k j : Nat) (hj : j < c.length) (s : Int × Int), wsum k (c.set j s) = wsum k c + ((k + j : Nat) : Int) * (oc s.2 - oc (c[j]).2)
  | x :: l, k, 0, _, s => by
    simp only [List.set_cons_zero, wsum, List.getElem_cons_zero, Nat.add_zero, Int.mul_sub]; omega
  | x :: l, k, j + 1, hj, s => by
    have := wsum_set l (k + 1) j (by simpa using hj) s
    simp only [List.set_cons_succ, wsum, List.getElem_cons_succ, this, show k + 1 + j = k + (j + 1) by omega]; omega
theorem wsum_erase (c : List (Int × Int)) : ∀ (k j : Nat) (hj : j < c.length), oc (c[j]).2 = 0 → (∀ s ∈ c, 0 ≤ oc s.2) → wsum k (c.eraseIdx j) ≤ wsum k c := by
  induction c with
  | nil => intro k j hj; exact absurd hj (Nat.not_lt_zero _)
  | cons x l ih =>
    intro k j hj h0 h
    cases j with
    | zero =>
      simp only [List.getElem_cons_zero] at h0
      have := wsum_mono l k (fun y hy => h y (by simp [hy]))
      simp only [List.eraseIdx_cons_zero, wsum, h0, Int.mul_zero]; omega
    | succ j =>
      have := ih (k + 1) j (by simpa using hj) (by simpa using h0) (fun y hy => h y (by simp [hy]))
      simp only [List.eraseIdx_cons_succ, wsum]; omega
theorem cnt_cons (s : Int × Int) (l : List (Int × Int)) : cnt (s :: l) = oc s.2 + cnt l := by simp [cnt]
theorem cnt_set : ∀ (c : List (Int × Int)) (j : Nat) (hj : j < c.length) (s : Int × Int), cnt (c.set j s) = cnt c + (oc s.2 - oc (c[j]).2)
  | x :: l, 0, _, s => by simp only [List.set_cons_zero, cnt_cons, List.getElem_cons_zero]; omega
  | x :: l, j + 1, hj, s => by
    have := cnt_set l j (by simpa using hj) s
    simp only [List.set_cons_succ, cnt_cons, List.getElem_cons_succ, this]; omega
theorem cnt_erase (c : List (Int × Int)) : ∀ (j : Nat) (hj : j < c.length), oc (c[j]).2 = 0 → cnt (c.eraseIdx j) = cnt c := by
  induction c with
  | nil => intro j hj; exact absurd hj (Nat.not_lt_zero _)
  | cons x l ih =>
    intro j hj h0
    cases j with
    | zero =>
      simp only [List.getElem_cons_zero] at h0
      simp only [List.eraseIdx_cons_zero, cnt_cons, h0]; omega
    | succ j =>
      have := ih j (by simpa using hj) (by simpa using h0)
      simp only [List.eraseIdx_cons_succ, cnt_cons, this]
theorem oc0 : oc 0 = 0 := by decide +kernel
theorem oc255 : oc 255 = 8 := by decide +kernel

section
variable {c : List (Int × Int)} {i j : Nat} (hv : Val c) (hi : i < c.length) (hj : j < c.length) (hn : (c[i]).2 ≠ 255) (hij : i < j)
include hv hi hj hn hij
theorem mvd_sums : wsum 0 (mvd c i j) = wsum 0 c - j + i ∧ cnt (mvd c i j) = cnt c ∧ (∀ s ∈ mvd c i j, 0 ≤ s.2 ∧ s.2 ≤ 255) := by
  obtain ⟨i0, i1, i2, i3⟩ := hv.get i hi
  obtain ⟨j0, j1, j2, j3⟩ := hv.get j hj
  have hg : (c.set j ((gt c j).1, lastU c j))[i]'(by simpa using hi) = c[i] := by simp [List.getElem_set, show j ≠ i by omega]
  have e1 : oc (lastU c j) = oc (c[j]).2 - 1 := by simp only [lastU, gt_lt hj]; exact oc_last _ j2 j3
  have e2 : oc ((gt c i).2 + 2 ^ (plc (gt c i).2).toNat) = oc (c[i]).2 + 1 := by rw [gt_lt hi]; exact oc_plc _ (by omega) (by omega)
  have hl := lastU_bd hv hj
  have hp := plcU_bd hv hi hn
  refine ⟨?_, ?_, ?_⟩
  · unfold mvd
    rw [wsum_set _ 0 i (by simpa using hi), hg, wsum_set _ 0 j hj, e2, e1]
    simp only [Nat.zero_add]
    have a1 : oc (c[j]).2 - 1 - oc (c[j]).2 = -1 := by omega
    have a2 : oc (c[i]).2 + 1 - oc (c[i]).2 = 1 := by omega
    rw [a1, a2]; omega
  · unfold mvd
    rw [cnt_set _ i (by simpa using hi), hg, cnt_set _ j hj, e2, e1]; omega
  · intro s hs
    unfold mvd at hs
    rcases List.mem_or_eq_of_mem_set hs with h | rfl
    · rcases List.mem_or_eq_of_mem_set h with h | rfl
      · exact hv.u s h
      · exact hl
    · rw [gt_lt hi]; dsimp only; omega
theorem nxt_sums : wsum 0 (nxt c i j) < wsum 0 c ∧ cnt (nxt c i j) = cnt c := by
  obtain ⟨h1, h2, h3⟩ := mvd_sums hv hi hj hn hij
  unfold nxt
  split
  · rename_i hz
    have hj' : j < (mvd c i j).length := by simpa [mvd] using hj
    have ej : oc ((mvd c i j)[j]).2 = 0 := by
      have : (mvd c i j)[j] = ((c[j]).1, 0) := by simp [mvd, List.getElem_set, show i ≠ j by omega, hz, gt_lt hj]
      rw [this]; exact oc0
    have := wsum_erase _ 0 j hj' ej (fun s hs => (oc_bd s.2 (h3 s hs).1 (h3 s hs).2).1)
    exact ⟨by omega, by rw [cnt_erase _ j hj' ej, h2]⟩
  · exact ⟨by omega, h2⟩
end

theorem lastI_none {c : List (Int × Int)} (h : lastI c = none) : Full c := by
  intro s hs
  obtain ⟨k, hk, rfl⟩ := List.mem_iff_getElem.1 hs
  have := List.find?_eq_none.1 h k (by simpa using hk)
  rw [gt_lt hk] at this
  simpa using this
theorem parts_or (c : List (Int × Int)) : Full c ∨ ∃ i j, Lo c i ∧ Hi c j ∧ i ≤ j := by
  cases h : firstI c with
  | none => exact .inl (firstI_none h)
  | some i =>
    have hlo := firstI_some h
    cases h2 : lastI c with
    | none => exact absurd (lastI_none h2) hlo.not_full
    | some j =>
      have hhi := lastI_some h2
      refine .inr ⟨i, j, hlo, hhi, ?_⟩
      rcases Nat.lt_or_ge j i with h3 | h3
      · exact absurd (hlo.2.2 j hhi.1 h3) hhi.2.1
      · exact h3
theorem trun_ex : ∀ (n : Nat) (c : List (Int × Int)), Val c → wsum 0 c ≤ n → ∃ c' ms, TRun c c' ms ∧ ms.length ≤ n
  | n, c, hv, hn => by
    rcases parts_or c with hf | ⟨i, j, hlo, hhi, hij⟩
    · exact ⟨c, [], .full hf, Nat.zero_le _⟩
    · by_cases he : i = j
      · subst he; exact ⟨c, [], .one hlo hhi, Nat.zero_le _⟩
      · have hij' : i < j := by omega
        obtain ⟨h1, h2⟩ := nxt_sums hv hlo.1 hhi.1 hlo.2.1 hij'
        have hvn := val_nxt hv hlo hhi.1 hij'
        have hnn := wsum_nn (nxt c i j) 0 (fun s hs => (oc_bd s.2 (hvn.u s hs).1 (hvn.u s hs).2).1)
        match n, hn with
        | 0, hn => omega
        | m + 1, hn =>
          obtain ⟨c', ms, h3, h4⟩ := trun_ex m (nxt c i j) hvn (by omega)
          exact ⟨c', _ :: ms, .step hlo hhi hij' h3, by simp; omega⟩

theorem run_ends {c c' ms : List (Int × Int)} (h : TRun c c' ms) : Val c → Val c' ∧ cnt c' = cnt c ∧ (Full c' ∨ ∃ i, Lo c' i ∧ Hi c' i) ∧ c'.length ≤ c.length := by
  induction h with
  | full hf => exact fun hv => ⟨hv, rfl, .inl hf, Nat.le_refl _⟩
  | one h1 h2 => exact fun hv => ⟨hv, rfl, .inr ⟨_, h1, h2⟩, Nat.le_refl _⟩
  | step h1 h2 h3 _ ih =>
    intro hv
    obtain ⟨a1, a2, a3, a4⟩ := ih (val_nxt hv h1 h2.1 h3)
    exact ⟨a1, a2.trans (nxt_sums hv h1.1 h2.1 h1.2.1 h3).2, a3, Nat.le_trans a4 (nxt_len _ _ _)⟩
theorem full_cnt : ∀ (c : List (Int × Int)), Full c → cnt c = 8 * c.length
  | [], _ => by simp [cnt]
  | s :: l, h => by
    rw [cnt_cons, full_cnt l (fun x hx => h x (by simp [hx])), h s (by simp), oc255, List.length_cons]; omega
theorem end_len {c : List (Int × Int)} (hv : Val c) (h : Full c ∨ ∃ i, Lo c i ∧ Hi c i) : (cnt c + 7) / 8 = c.length := by
  rcases h with hf | ⟨i, ⟨hi, hn, hlo⟩, ⟨_, _, hhi⟩⟩
  · rw [full_cnt c hf]; omega
  · obtain ⟨b0, b1, b2, b3⟩ := hv.get i hi
    have hf : Full (c.set i ((c[i]).1, 255)) := by
      intro s hs
      obtain ⟨k, hk, rfl⟩ := List.mem_iff_getElem.1 hs
      have hk' : k < c.length := by simpa using hk
      by_cases hki : k = i
      · subst hki; simp
      · rw [List.getElem_set_ne (Ne.symm hki)]
        rcases Nat.lt_or_ge k i with h | h
        · exact hlo k hk' h
        · exact hhi k hk' (by omega)
    have h1 := full_cnt _ hf
    rw [cnt_set c i hi, oc255, List.length_set] at h1
    have h2 := oc_part (c[i]).2 b2 (by omega)
    omega
theorem done_run {c : List (Int × Int)} (h : Full c ∨ ∃ i, Lo c i ∧ Hi c i) : TRun c c [] := by
  rcases h with h | ⟨i, h1, h2⟩
  · exact .full h
  · exact .one h1 h2

theorem run_moves {c c' ms : List (Int × Int)} (h : TRun c c' ms) : ∀ (a b : Int), Val c → (∀ k (h : k < c.length), (c[k]).2 ≠ 255 → a ≤ (c[k]).1 ∧ (c[k]).1 ≤ b) →
    (∀ m ∈ ms, a ≤ m.2 / 8 ∧ m.2 / 8 < m.1 / 8 ∧ m.1 / 8 ≤ b ∧ Us c m.1 ∧ ¬ Us c m.2 ∧ ¬ Us c' m.1 ∧ Us c' m.2) ∧ (∀ o, Us c' o → Us c o ∨ ∃ m ∈ ms, o = m.2) ∧ (∀ o, Us c o → Us c' o ∨ ∃ m ∈ ms, o = m.1) := by
  induction h with
  | full hf => exact fun a b hv hab => ⟨fun m hm => absurd hm List.not_mem_nil, fun o ho => .inl ho, fun o ho => .inl ho⟩
  | one h1 h2 => exact fun a b hv hab => ⟨fun m hm => absurd hm List.not_mem_nil, fun o ho => .inl ho, fun o ho => .inl ho⟩
  | step hlo hhi hij hrun ih =>
    rename_i c c' ms i j
    intro a b hv hab
    obtain ⟨hi, hn, hall⟩ := hlo
    obtain ⟨hj, hnj, hallj⟩ := hhi
    obtain ⟨i0, i1, i2, i3⟩ := hv.get i hi
    obtain ⟨j0, j1, j2, j3⟩ := hv.get j hj
    obtain ⟨l0, l1, l2⟩ := ln_bd (c[j]).2 j2 j3
    obtain ⟨p0, p1⟩ := plc_bd (c[i]).2 (by omega) (by omega)
    have hpf := plc_free (c[i]).2 (by omega) (by omega)
    have hfij := hv.lt hij hj
    have em : mv c i j = ((c[j]).1 * 8 + (ln (c[j]).2 - 1), (c[i]).1 * 8 + plc (c[i]).2) := by simp [mv, gt_lt hi, gt_lt hj]
    have hnx := nxt_in hv hi hj hn hij
    rw [em] at hnx ⊢
    obtain ⟨a0, _⟩ := hab i hi hn
    obtain ⟨_, b0⟩ := hab j hj hnj
    generalize hH : (c[j]).1 * 8 + (ln (c[j]).2 - 1) = H at *
    generalize hT : (c[i]).1 * 8 + plc (c[i]).2 = T at *
    dsimp only at hnx
    have H8 : H / 8 = (c[j]).1 := by omega
    have T8 : T / 8 = (c[i]).1 := by omega
    have Hm : H % 8 = ln (c[j]).2 - 1 := by omega
    have Tm : T % 8 = plc (c[i]).2 := by omega
    have hpart : ∀ k (h : k < (nxt c i j).length), ((nxt c i j)[k]).2 ≠ 255 → (c[i]).1 ≤ ((nxt c i j)[k]).1 ∧ ((nxt c i j)[k]).1 ≤ (c[j]).1 := by
      have key : ∀ s ∈ mvd c i j, s.2 ≠ 255 → (c[i]).1 ≤ s.1 ∧ s.1 ≤ (c[j]).1 := by
        intro s hs hs2
        obtain ⟨q, hq, rfl⟩ := List.mem_iff_getElem.1 hs
        have hq' : q < c.length := by simpa [mvd] using hq
        rw [mvd_at hij q hq']
        by_cases hqi : q = i
        · subst hqi; omega
        · by_cases hqj : q = j
          · subst hqj; omega
          · have e : (mvd c i j)[q] = c[q] := by simp [mvd, List.getElem_set, Ne.symm hqi, Ne.symm hqj]
            rw [e] at hs2
            have g1 : ¬ q < i := fun g => hs2 (hall q hq' g)
            have g2 : ¬ j < q := fun g => hs2 (hallj q hq' g)
            have := hv.lt (show i < q by omega) hq'
            have := hv.lt (show q < j by omega) hj
            omega
      intro k hk hk2
      have hm : (nxt c i j)[k] ∈ nxt c i j := List.getElem_mem hk
      refine key _ ?_ hk2
      generalize (nxt c i j)[k] = s at hm
      unfold nxt at hm
      split at hm
      · exact List.mem_of_mem_eraseIdx hm
      · exact hm
    obtain ⟨r1, r2, r3⟩ := ih (c[i]).1 (c[j]).1 (val_nxt hv ⟨hi, hn, hall⟩ hj hij) hpart
    have uH : Us c H := ⟨j, hj, H8.symm, by rw [Hm]; exact l2⟩
    have nT : ¬ Us c T := by
      rintro ⟨q, hq, q1, q2⟩
      have hqi : q = i := by
        rcases Nat.lt_trichotomy q i with g | g | g
        · have := hv.lt g hi; omega
        · exact g
        · have := hv.lt g hq; omega
      subst hqi
      rw [Tm, hpf] at q2; cases q2
    refine ⟨fun m hm => ?_, fun o ho => ?_, fun o ho => ?_⟩
    · rcases List.mem_cons.1 hm with rfl | hm
      · refine ⟨by dsimp only; omega, by dsimp only; omega, by dsimp only; omega, uH, nT, fun hc => ?_, ?_⟩
        · rcases r2 H hc with hc | ⟨m, hm, hme⟩
          · rcases (hnx H).1 hc with ⟨_, g⟩ | g
            · exact g rfl
            · omega
          · obtain ⟨g1, g2, g3, _⟩ := r1 m hm
            omega
        · rcases r3 T ((hnx T).2 (.inr rfl)) with hc | ⟨m, hm, hme⟩
          · exact hc
          · obtain ⟨g1, g2, g3, _⟩ := r1 m hm
            omega
      · obtain ⟨g1, g2, g3, g4, g5, g6, g7⟩ := r1 m hm
        refine ⟨by omega, g2, by omega, ?_, fun hc => ?_, g6, g7⟩
        · rcases (hnx m.1).1 g4 with ⟨g, _⟩ | g
          · exact g
          · omega
        · exact g5 ((hnx m.2).2 (.inl ⟨hc, fun e => by omega⟩))
    · rcases r2 o ho with hc | ⟨m, hm, hme⟩
      · rcases (hnx o).1 hc with ⟨g, _⟩ | g
        · exact .inl g
        · exact .inr ⟨_, List.mem_cons_self, g⟩
      · exact .inr ⟨m, List.mem_cons_of_mem _ hm, hme⟩
    · by_cases hoH : o = H
      · exact .inr ⟨_, List.mem_cons_self, hoH⟩
      · rcases r3 o ((hnx o).2 (.inl ⟨ho, hoH⟩)) with hc | ⟨m, hm, hme⟩
        · exact .inl hc
        · exact .inr ⟨m, List.mem_cons_of_mem _ hm, hme⟩
theorem wsum_bd : ∀ (c : List (Int × Int)) (k : Nat), (∀ s ∈ c, oc s.2 ≤ 8) → wsum k c ≤ 8 * (c.length : Int) * (k + c.length)
  | [], k, _ => by simp [wsum]
  | s :: l, k, h => by
    have h1 := wsum_bd l (k + 1) (fun x hx => h x (by simp [hx]))
    have h2 := h s (by simp)
    have h3 : (k : Int) * oc s.2 ≤ k * 8 := Int.mul_le_mul_of_nonneg_left h2 (by omega)
    simp only [wsum, List.length_cons]
    have e : 8 * ((l.length + 1 : Nat) : Int) * ((k : Int) + ((l.length + 1 : Nat) : Int)) = 8 * (l.length : Int) * (((k + 1 : Nat) : Int) + l.length) + 8 * ((k : Int) + l.length + 1) := by
      simp only [Int.natCast_add, Int.natCast_one]
      generalize (l.length : Int) = q
      generalize (k : Int) = r
      rw [show 8 * (q + 1) * (r + (q + 1)) = 8 * q * (r + (q + 1)) + 8 * (r + (q + 1)) by rw [Int.mul_add 8 q 1, Int.add_mul]; omega]
      have e2 : r + (q + 1) = r + 1 + q := by omega
      rw [e2]
      omega
    rw [e]; omega
end Go.Proofs.Ytokocigmchfdfaa
