/- The plain law of objects and of tidying. -/
import Derived.Test.YtokocigmchfdfaaCacG
import Derived.Test.YtokocigmchfdfaaCacN
set_option linter.unusedSimpArgs false
set_option linter.unusedVariables false
namespace Go.Proofs.Ytokocigmchfdfaa

/-- an object is in use -/
def Us (c : List (Int × Int)) (o : Int) : Prop := ∃ k : Nat, ∃ h : k < c.length, (c[k]).1 = o / 8 ∧ usd (c[k]).2 (o % 8) = true

theorem og_shift : ∀ (n : Nat) (o r d : Int), og n (o + d) r = (og n o r).map (· + d)
  | 0, _, _, _ => rfl
  | n + 1, o, r, d => by
    have e : o + d + 1 = o + 1 + d := by omega
    rw [og, og]
    split
    · rfl
    · split
      · rw [e, og_shift n (o + 1) (r / 2) d]; rfl
      · rw [e, og_shift n (o + 1) (r / 2) d]
theorem og8 (u : Int) (h0 : 0 ≤ u) (h1 : u ≤ 255) : og 8 0 u = ((List.range 8).map fun k : Nat => (k : Int)).filter (usd u) :=
  of_fin (Q := fun u => og 8 0 u = ((List.range 8).map fun k : Nat => (k : Int)).filter (usd u)) (by decide +kernel) u h0 h1
theorem objs1_eq (s : Int × Int) : objs1 s = (og 8 0 s.2).map (· + s.1 * 8) := by
  have := og_shift 8 0 s.2 (s.1 * 8)
  rw [Int.zero_add] at this
  exact this
theorem mem_objs1 {s : Int × Int} (h0 : 0 ≤ s.2) (h1 : s.2 ≤ 255) (o : Int) : o ∈ objs1 s ↔ s.1 = o / 8 ∧ usd s.2 (o % 8) = true := by
  rw [objs1_eq, og8 _ h0 h1]
  simp only [List.mem_map, List.mem_filter, List.mem_range]
  constructor
  · rintro ⟨a, ⟨⟨k, hk, rfl⟩, hu⟩, rfl⟩
    have e1 : ((k : Int) + s.1 * 8) / 8 = s.1 := by omega
    have e2 : ((k : Int) + s.1 * 8) % 8 = k := by omega
    rw [e1, e2]; exact ⟨rfl, hu⟩
  · rintro ⟨h2, h3⟩
    refine ⟨o % 8, ⟨⟨(o % 8).toNat, by omega, by omega⟩, h3⟩, by omega⟩
theorem mem_objsC {c : List (Int × Int)} (hv : Val c) (o : Int) : o ∈ objsC c ↔ Us c o := by
  unfold objsC
  rw [List.mem_flatMap]
  constructor
  · rintro ⟨s, hs, ho⟩
    obtain ⟨k, hk, rfl⟩ := List.mem_iff_getElem.1 hs
    have := hv.get k hk
    exact ⟨k, hk, (mem_objs1 (by omega) this.2.2.2 o).1 ho⟩
  · rintro ⟨k, hk, h⟩
    have := hv.get k hk
    exact ⟨c[k], List.getElem_mem hk, (mem_objs1 (by omega) this.2.2.2 o).2 h⟩
theorem oc_len (u : Int) (h0 : 0 ≤ u) (h1 : u ≤ 255) : ((og 8 0 u).length : Int) = oc u := of_fin (Q := fun u => ((og 8 0 u).length : Int) = oc u) (by decide +kernel) u h0 h1
theorem cnt_objs : ∀ (c : List (Int × Int)), (∀ s ∈ c, 0 ≤ s.2 ∧ s.2 ≤ 255) → ((objsC c).length : Int) = cnt c
  | [], _ => by simp [objsC, cnt]
  | s :: l, h => by
    have h1 := cnt_objs l (fun x hx => h x (by simp [hx]))
    have h2 := h s (by simp)
    have e : objsC (s :: l) = objs1 s ++ objsC l := by simp [objsC]
    have e2 : cnt (s :: l) = oc s.2 + cnt l := by simp [cnt]
    have e3 : ((objs1 s).length : Int) = oc s.2 := by rw [objs1_eq, List.length_map]; exact oc_len _ h2.1 h2.2
    rw [e, e2, List.length_append, ← e3, ← h1]; omega

/-! ### one step -/
theorem usd_last (u p : Int) (h0 : 1 ≤ u) (h1 : u ≤ 255) (p0 : 0 ≤ p) (p1 : p ≤ 7) : usd (u - 2 ^ (ln u - 1).toNat) p = (usd u p && decide (p ≠ ln u - 1)) := by
  have := of_fin8 (Q := fun u p => 1 ≤ u → usd (u - 2 ^ (ln u - 1).toNat) p = (usd u p && decide (p ≠ ln u - 1))) (by decide +kernel) u p (by omega) h1 p0 p1
  exact this h0
theorem usd_plc (u p : Int) (h0 : 0 ≤ u) (h1 : u ≤ 254) (p0 : 0 ≤ p) (p1 : p ≤ 7) : usd (u + 2 ^ (plc u).toNat) p = (usd u p || decide (p = plc u)) := by
  have := of_fin8 (Q := fun u p => u ≤ 254 → usd (u + 2 ^ (plc u).toNat) p = (usd u p || decide (p = plc u))) (by decide +kernel) u p h0 (by omega) p0 p1
  exact this h1
theorem oc_last (u : Int) (h0 : 1 ≤ u) (h1 : u ≤ 255) : oc (u - 2 ^ (ln u - 1).toNat) = oc u - 1 := by
  have := of_fin (Q := fun u => 1 ≤ u → oc (u - 2 ^ (ln u - 1).toNat) = oc u - 1) (by decide +kernel) u (by omega) h1
  exact this h0
theorem oc_plc (u : Int) (h0 : 0 ≤ u) (h1 : u ≤ 254) : oc (u + 2 ^ (plc u).toNat) = oc u + 1 := by
  have := of_fin (Q := fun u => u ≤ 254 → oc (u + 2 ^ (plc u).toNat) = oc u + 1) (by decide +kernel) u h0 (by omega)
  exact this h1
theorem usd0 (p : Int) (p0 : 0 ≤ p) (p1 : p ≤ 7) : usd 0 p = false := by
  have := of_fin8 (Q := fun u p => u = 0 → usd u p = false) (by decide +kernel) 0 p (by omega) (by omega) p0 p1
  exact this rfl
theorem oc_part (u : Int) (h0 : 1 ≤ u) (h1 : u ≤ 254) : 1 ≤ oc u ∧ oc u ≤ 7 := by
  have := of_fin (Q := fun u => 1 ≤ u → u ≤ 254 → 1 ≤ oc u ∧ oc u ≤ 7) (by decide +kernel) u (by omega) (by omega)
  exact this h0 h1

section
variable {c : List (Int × Int)} {i j : Nat} (hv : Val c) (hi : i < c.length) (hj : j < c.length) (hn : (c[i]).2 ≠ 255) (hij : i < j)
include hv hi hj hn hij

omit hv hi hj hn in
theorem mvd_at (k : Nat) (hk : k < c.length) : ((mvd c i j)[k]'(by simpa [mvd] using hk)).1 = (c[k]).1 := by
  have := congrArg (fun l => l[k]?) (mvd_frames c i j hij)
  have hk' : k < (mvd c i j).length := by simpa [mvd] using hk
  simp [hk, hk'] at this
  exact this
theorem mvd_in (o : Int) : Us (mvd c i j) o ↔ (Us c o ∧ o ≠ (mv c i j).1) ∨ o = (mv c i j).2 := by
  obtain ⟨i0, i1, i2, i3⟩ := hv.get i hi
  obtain ⟨j0, j1, j2, j3⟩ := hv.get j hj
  obtain ⟨l0, l1, l2⟩ := ln_bd (c[j]).2 j2 j3
  obtain ⟨p0, p1⟩ := plc_bd (c[i]).2 (by omega) (by omega)
  have hfij := hv.lt hij hj
  have em : mv c i j = ((c[j]).1 * 8 + (ln (c[j]).2 - 1), (c[i]).1 * 8 + plc (c[i]).2) := by simp [mv, gt_lt hi, gt_lt hj]
  have ei : (mvd c i j)[i]'(by simpa [mvd] using hi) = ((c[i]).1, (c[i]).2 + 2 ^ (plc (c[i]).2).toNat) := by simp [mvd, gt_lt hi]
  have ej : (mvd c i j)[j]'(by simpa [mvd] using hj) = ((c[j]).1, (c[j]).2 - 2 ^ (ln (c[j]).2 - 1).toNat) := by simp [mvd, List.getElem_set, show i ≠ j by omega, lastU, gt_lt hj]
  have ek : ∀ k (hk : k < c.length), k ≠ i → k ≠ j → (mvd c i j)[k]'(by simpa [mvd] using hk) = c[k] := fun k hk h1 h2 => by simp [mvd, List.getElem_set, Ne.symm h1, Ne.symm h2]
  have m0 : 0 ≤ o % 8 := by omega
  have m1 : o % 8 ≤ 7 := by omega
  have uniq : ∀ k (hk : k < c.length) k' (hk' : k' < c.length), (c[k]).1 = o / 8 → (c[k']).1 = o / 8 → k = k' := by
    intro k hk k' hk' h1 h2
    rcases Nat.lt_trichotomy k k' with h | h | h
    · have := hv.lt h hk'; omega
    · exact h
    · have := hv.lt h hk; omega
  rw [em]
  dsimp only
  constructor
  · rintro ⟨k, hk, h1, h2⟩
    have hk' : k < c.length := by simpa [mvd] using hk
    by_cases hki : k = i
    · subst hki
      rw [ei] at h1 h2
      dsimp only at h1 h2
      rw [usd_plc _ _ (by omega) (by omega) m0 m1] at h2
      by_cases hp : o % 8 = plc (c[k]).2
      · right; omega
      · left
        simp [hp] at h2
        exact ⟨⟨k, hk', h1, h2⟩, by omega⟩
    · by_cases hkj : k = j
      · subst hkj
        rw [ej] at h1 h2
        dsimp only at h1 h2
        rw [usd_last _ _ j2 j3 m0 m1] at h2
        simp at h2
        left
        exact ⟨⟨k, hk', h1, h2.1⟩, by omega⟩
      · rw [ek k hk' hki hkj] at h1 h2
        left
        refine ⟨⟨k, hk', h1, h2⟩, fun e => hkj (uniq k hk' j hj h1 (by omega))⟩
  · rintro (⟨⟨k, hk, h1, h2⟩, hne⟩ | rfl)
    · refine ⟨k, by simpa [mvd] using hk, ?_⟩
      by_cases hki : k = i
      · subst hki
        rw [ei]
        exact ⟨h1, by dsimp only; rw [usd_plc _ _ (by omega) (by omega) m0 m1, h2]; rfl⟩
      · by_cases hkj : k = j
        · subst hkj
          rw [ej]
          refine ⟨h1, ?_⟩
          dsimp only
          rw [usd_last _ _ j2 j3 m0 m1, h2]
          simp
          intro e; exact hne (by omega)
        · rw [ek k hk hki hkj]; exact ⟨h1, h2⟩
    · refine ⟨i, by simpa [mvd] using hi, ?_⟩
      rw [ei]
      have e1 : ((c[i]).1 * 8 + plc (c[i]).2) / 8 = (c[i]).1 := by omega
      have e2 : ((c[i]).1 * 8 + plc (c[i]).2) % 8 = plc (c[i]).2 := by omega
      rw [e1, e2]
      exact ⟨rfl, by dsimp only; rw [usd_plc _ _ (by omega) (by omega) p0 p1]; simp⟩
omit hv hi hn in
theorem erase_in (hz : lastU c j = 0) (o : Int) : Us ((mvd c i j).eraseIdx j) o ↔ Us (mvd c i j) o := by
  have ej : (mvd c i j)[j]'(by simpa [mvd] using hj) = ((c[j]).1, 0) := by simp [mvd, List.getElem_set, show i ≠ j by omega, hz, gt_lt hj]
  constructor
  · rintro ⟨k, hk, h1, h2⟩
    have hm : ((mvd c i j).eraseIdx j)[k] ∈ (mvd c i j).eraseIdx j := List.getElem_mem hk
    obtain ⟨q, hq, _, hqe⟩ := List.mem_eraseIdx_iff_getElem.1 hm
    exact ⟨q, hq, by rw [hqe]; exact h1, by rw [hqe]; exact h2⟩
  · rintro ⟨k, hk, h1, h2⟩
    by_cases hkj : k = j
    · subst hkj
      rw [ej] at h2
      rw [usd0 _ (by omega) (by omega)] at h2
      cases h2
    · have hm : (mvd c i j)[k] ∈ (mvd c i j).eraseIdx j := List.mem_eraseIdx_iff_getElem.2 ⟨k, hk, hkj, rfl⟩
      obtain ⟨q, hq, hqe⟩ := List.mem_iff_getElem.1 hm
      exact ⟨q, hq, by rw [hqe]; exact h1, by rw [hqe]; exact h2⟩
theorem nxt_in (o : Int) : Us (nxt c i j) o ↔ (Us c o ∧ o ≠ (mv c i j).1) ∨ o = (mv c i j).2 := by
  rw [← mvd_in hv hi hj hn hij o]
  unfold nxt
  split
  · rename_i hz; exact erase_in hj hij hz o
  · exact Iff.rfl
end
end Go.Proofs.Ytokocigmchfdfaa
