/- The plain law of freeing all objects. -/
import Derived.Test.YtokocigmchfdfaaCacQ
set_option linter.unusedSimpArgs false
set_option linter.unusedVariables false
namespace Go.Proofs.Ytokocigmchfdfaa

theorem usd_clr (u p q : Int) (h0 : 0 ≤ u) (h1 : u ≤ 255) (p0 : 0 ≤ p) (p1 : p ≤ 7) (q0 : 0 ≤ q) (q1 : q ≤ 7) (hq : usd u q = true) : usd (u - 2 ^ q.toNat) p = (usd u p && decide (p ≠ q)) := by
  have : ∀ n : Fin 256, ∀ k q : Fin 8, usd (n.1 : Int) (q.1 : Int) = true → usd ((n.1 : Int) - 2 ^ q.1) (k.1 : Int) = (usd (n.1 : Int) (k.1 : Int) && decide ((k.1 : Int) ≠ (q.1 : Int))) := by decide +kernel
  obtain ⟨n, rfl⟩ := Int.eq_ofNat_of_zero_le h0
  obtain ⟨k, rfl⟩ := Int.eq_ofNat_of_zero_le p0
  obtain ⟨r, rfl⟩ := Int.eq_ofNat_of_zero_le q0
  have := this ⟨n, by omega⟩ ⟨k, by omega⟩ ⟨r, by omega⟩ hq
  simpa using this

/-- the cache without an object of the slab p -/
def frD (d : List (Int × Int)) (p : Nat) (o : Int) : List (Int × Int) := if (gt d p).2 - 2 ^ (o % 8).toNat = 0 then d.eraseIdx p else d.set p ((gt d p).1, (gt d p).2 - 2 ^ (o % 8).toNat)

section
variable {d : List (Int × Int)} {p : Nat} {o : Int} (hv : Val d) (hp : p < d.length) (hf : (d[p]).1 = o / 8) (hu : usd (d[p]).2 (o % 8) = true)
include hv hp hf hu

omit hf in
theorem fr_val : Val (frD d p o) := by
  obtain ⟨b0, b1, b2, b3⟩ := hv.get p hp
  have hub := used_bd (d[p]).2 (o % 8) (by omega) b3 (by omega) (by omega) hu
  have hpw := pow8_bd (o % 8) (by omega) (by omega)
  unfold frD
  rw [gt_lt hp]
  split
  · exact val_erase (sorted_frames.1 hv.sorted) (fun k hk _ => hv.get k hk)
  · rename_i hz
    refine ⟨sorted_frames.2 (by have := frames_set d p ((d[p]).2 - 2 ^ (o % 8).toNat); rw [gt_lt hp] at this; rw [this]; exact sorted_frames.1 hv.sorted), fun s hs => ?_⟩
    rcases List.mem_or_eq_of_mem_set hs with h | rfl
    · exact hv.bd s h
    · exact ⟨b0, b1, by dsimp only; omega, by dsimp only; omega⟩
theorem fr_in (x : Int) : Us (frD d p o) x ↔ Us d x ∧ x ≠ o := by
  obtain ⟨b0, b1, b2, b3⟩ := hv.get p hp
  have m0 : 0 ≤ x % 8 := by omega
  have m1 : x % 8 ≤ 7 := by omega
  have hclr := usd_clr (d[p]).2 (x % 8) (o % 8) (by omega) b3 m0 m1 (by omega) (by omega) hu
  have uniq : ∀ k (hk : k < d.length), (d[k]).1 = (d[p]).1 → k = p := by
    intro k hk h1
    rcases Nat.lt_trichotomy k p with h | h | h
    · have := hv.lt h hp; omega
    · exact h
    · have := hv.lt h hk; omega
  have hset : Us (d.set p ((d[p]).1, (d[p]).2 - 2 ^ (o % 8).toNat)) x ↔ Us d x ∧ x ≠ o := by
    constructor
    · rintro ⟨k, hk, h1, h2⟩
      have hk' : k < d.length := by simpa using hk
      by_cases hkp : k = p
      · subst hkp
        simp only [List.getElem_set_self] at h1 h2
        rw [hclr] at h2
        simp at h2
        exact ⟨⟨k, hk', h1, h2.1⟩, fun e => h2.2 (by rw [e])⟩
      · rw [List.getElem_set_ne (Ne.symm hkp)] at h1 h2
        exact ⟨⟨k, hk', h1, h2⟩, fun e => hkp (uniq k hk' (by rw [h1, hf, e]))⟩
    · rintro ⟨⟨k, hk, h1, h2⟩, hne⟩
      refine ⟨k, by simpa using hk, ?_⟩
      by_cases hkp : k = p
      · subst hkp
        simp only [List.getElem_set_self]
        refine ⟨h1, ?_⟩
        rw [hclr, h2]
        simp
        intro e; exact hne (by omega)
      · rw [List.getElem_set_ne (Ne.symm hkp)]; exact ⟨h1, h2⟩
  unfold frD
  rw [gt_lt hp]
  split
  · rename_i hz
    rw [← hset, hz]
    constructor
    · rintro ⟨k, hk, h1, h2⟩
      have hm : (d.eraseIdx p)[k] ∈ d.eraseIdx p := List.getElem_mem hk
      obtain ⟨q, hq, hqp, hqe⟩ := List.mem_eraseIdx_iff_getElem.1 hm
      exact ⟨q, by simpa using hq, by rw [List.getElem_set_ne (Ne.symm hqp), hqe]; exact h1, by rw [List.getElem_set_ne (Ne.symm hqp), hqe]; exact h2⟩
    · rintro ⟨k, hk, h1, h2⟩
      have hk' : k < d.length := by simpa using hk
      by_cases hkp : k = p
      · subst hkp
        simp only [List.getElem_set_self] at h2
        rw [usd0 _ m0 m1] at h2; cases h2
      · rw [List.getElem_set_ne (Ne.symm hkp)] at h1 h2
        have hm : d[k] ∈ d.eraseIdx p := List.mem_eraseIdx_iff_getElem.2 ⟨k, hk', hkp, rfl⟩
        obtain ⟨q, hq, hqe⟩ := List.mem_iff_getElem.1 hm
        exact ⟨q, hq, by rw [hqe]; exact h1, by rw [hqe]; exact h2⟩
  · exact hset
end

theorem some_in {d : List (Int × Int)} (hv : Val d) (h : d ≠ []) : ∃ o, Us d o := by
  have h0 : 0 < d.length := List.length_pos_iff.2 h
  obtain ⟨b0, b1, b2, b3⟩ := hv.get 0 h0
  obtain ⟨l0, l1, l2⟩ := ln_bd (d[0]).2 b2 b3
  generalize hl : ln (d[0]).2 - 1 = q at *
  generalize hf : (d[0]).1 = f at *
  have e1 : (f * 8 + q) / 8 = f := by omega
  have e2 : (f * 8 + q) % 8 = q := by omega
  exact ⟨f * 8 + q, 0, h0, by rw [e1]; exact hf, by rw [e2]; exact l2⟩

theorem objsC_nodup {c : List (Int × Int)} (hv : Val c) : (objsC c).Nodup := by
  unfold objsC
  rw [List.nodup_iff_pairwise_ne, List.pairwise_flatMap]
  refine ⟨fun s hs => ?_, hv.sorted.imp_of_mem fun {a b} ha hb hab x hx y hy => ?_⟩
  · have := hv.bd s hs
    rw [objs1_eq, og8 _ (by omega) this.2.2.2]
    refine List.Pairwise.map _ (fun a b (h : a ≠ b) e => h (by omega)) ?_
    refine List.Pairwise.filter _ ?_
    exact List.Pairwise.map _ (fun a b (h : a ≠ b) e => h (by omega)) (List.nodup_iff_pairwise_ne.1 List.nodup_range)
  · have h1 := hv.bd a ha
    have h2 := hv.bd b hb
    have h3 := ((mem_objs1 (by omega) h1.2.2.2 x).1 hx).1
    have h4 := ((mem_objs1 (by omega) h2.2.2.2 y).1 hy).1
    rintro rfl
    omega

/-- what the law keeps while it frees -/
structure Emp (c d : List (Int × Int)) (left fr : List Int) : Prop where
  val : Val d
  nd : left.Nodup
  mem : ∀ o, o ∈ left ↔ Us d o
  fnd : fr.Nodup
  fmem : ∀ f, f ∈ fr ↔ f ∈ c.map (·.1) ∧ f ∉ d.map (·.1)
  sub : ∀ f, f ∈ d.map (·.1) → f ∈ c.map (·.1)
  len : fr.length + d.length = c.length

theorem Emp.start {c : List (Int × Int)} (hv : Val c) : Emp c c (objsC c) [] :=
  ⟨hv, objsC_nodup hv, mem_objsC hv, List.nodup_nil, fun f => ⟨fun h => absurd h List.not_mem_nil, fun h => absurd h.1 h.2⟩, fun _ h => h, by simp⟩

theorem nodup_erase_mem {left : List Int} (hn : left.Nodup) {k : Nat} (hk : k < left.length) (x : Int) : x ∈ left.eraseIdx k ↔ x ∈ left ∧ x ≠ left[k] := by
  rw [List.mem_eraseIdx_iff_getElem]
  constructor
  · rintro ⟨i, hi, hne, rfl⟩
    exact ⟨List.getElem_mem hi, fun e => hne ((List.getElem_inj hn).1 e)⟩
  · rintro ⟨h1, h2⟩
    obtain ⟨i, hi, rfl⟩ := List.mem_iff_getElem.1 h1
    exact ⟨i, hi, fun e => h2 (by subst e; rfl), rfl⟩

theorem Emp.keep {c d : List (Int × Int)} {left fr : List Int} (h : Emp c d left fr) {k p : Nat} (hk : k < left.length) (hp : p < d.length) (hf : (d[p]).1 = left[k] / 8) (hu : usd (d[p]).2 (left[k] % 8) = true) (hz : (d[p]).2 - 2 ^ (left[k] % 8).toNat ≠ 0) :
    Emp c (d.set p ((d[p]).1, (d[p]).2 - 2 ^ (left[k] % 8).toNat)) (left.eraseIdx k) fr := by
  have e : frD d p left[k] = d.set p ((d[p]).1, (d[p]).2 - 2 ^ (left[k] % 8).toNat) := by simp [frD, gt_lt hp, hz]
  have h1 := fr_val h.val hp hu
  have h2 := fr_in h.val hp hf hu
  rw [e] at h1 h2
  have hfr : (d.set p ((d[p]).1, (d[p]).2 - 2 ^ (left[k] % 8).toNat)).map (·.1) = d.map (·.1) := by have := frames_set d p ((d[p]).2 - 2 ^ (left[k] % 8).toNat); rwa [gt_lt hp] at this
  refine ⟨h1, h.nd.eraseIdx k, fun o => by rw [nodup_erase_mem h.nd hk, h.mem, h2], h.fnd, ?_, ?_, by simpa using h.len⟩
  · rw [hfr]; exact h.fmem
  · rw [hfr]; exact h.sub
theorem frames_nodup {d : List (Int × Int)} (hv : Val d) : (d.map (·.1)).Nodup := by
  have := sorted_frames.1 hv.sorted
  exact List.nodup_iff_pairwise_ne.2 (this.imp fun h e => by omega)
theorem Emp.drop {c d : List (Int × Int)} {left fr : List Int} (h : Emp c d left fr) {k p : Nat} (hk : k < left.length) (hp : p < d.length) (hf : (d[p]).1 = left[k] / 8) (hu : usd (d[p]).2 (left[k] % 8) = true) (hz : (d[p]).2 - 2 ^ (left[k] % 8).toNat = 0) :
    Emp c (d.eraseIdx p) (left.eraseIdx k) (fr ++ [left[k] / 8]) ∧ left[k] / 8 ∉ fr := by
  have e : frD d p left[k] = d.eraseIdx p := by simp [frD, gt_lt hp, hz]
  have h1 := fr_val h.val hp hu
  have h2 := fr_in h.val hp hf hu
  rw [e] at h1 h2
  have hin : left[k] / 8 ∈ d.map (·.1) := List.mem_map.2 ⟨d[p], List.getElem_mem hp, hf⟩
  have hnf : left[k] / 8 ∉ fr := fun hm => ((h.fmem _).1 hm).2 hin
  have hfr : ∀ f, f ∈ (d.eraseIdx p).map (·.1) ↔ f ∈ d.map (·.1) ∧ f ≠ left[k] / 8 := by
    intro f
    rw [List.mem_map, List.mem_map]
    constructor
    · rintro ⟨s, hs, rfl⟩
      obtain ⟨q, hq, hqp, rfl⟩ := List.mem_eraseIdx_iff_getElem.1 hs
      refine ⟨⟨d[q], List.getElem_mem hq, rfl⟩, fun e => hqp ?_⟩
      rcases Nat.lt_trichotomy q p with g | g | g
      · have := h.val.lt g hp; omega
      · exact g
      · have := h.val.lt g hq; omega
    · rintro ⟨⟨s, hs, rfl⟩, hne⟩
      obtain ⟨q, hq, rfl⟩ := List.mem_iff_getElem.1 hs
      refine ⟨d[q], List.mem_eraseIdx_iff_getElem.2 ⟨q, hq, fun e => hne (by subst e; exact hf), rfl⟩, rfl⟩
  refine ⟨⟨h1, h.nd.eraseIdx k, fun o => by rw [nodup_erase_mem h.nd hk, h.mem, h2], ?_, fun f => ?_, fun f hm => h.sub f ((hfr f).1 hm).1, ?_⟩, hnf⟩
  · rw [List.nodup_append]
    exact ⟨h.fnd, by simp, fun a ha b hb => by simp at hb; subst hb; rintro rfl; exact hnf ha⟩
  · rw [List.mem_append, List.mem_singleton, h.fmem, hfr]
    constructor
    · rintro (⟨g1, g2⟩ | rfl)
      · exact ⟨g1, fun g => g2 g.1⟩
      · exact ⟨h.sub _ hin, fun g => g.2 rfl⟩
    · rintro ⟨g1, g2⟩
      by_cases hfe : f = left[k] / 8
      · exact .inr hfe
      · exact .inl ⟨g1, fun g => g2 ⟨g, hfe⟩⟩
  · have := h.len
    rw [List.length_append, List.length_eraseIdx, if_pos hp]; simp; omega
theorem Emp.fin {c d : List (Int × Int)} {fr : List Int} (h : Emp c d [] fr) : d = [] ∧ fr.length = c.length ∧ ∀ s ∈ c, s.1 ∈ fr := by
  have hd : d = [] := by
    by_cases hd : d = []
    · exact hd
    · obtain ⟨o, ho⟩ := some_in h.val hd
      exact absurd ((h.mem o).2 ho) List.not_mem_nil
  subst hd
  refine ⟨rfl, by simpa using h.len, fun s hs => (h.fmem _).2 ⟨List.mem_map.2 ⟨s, hs, rfl⟩, by simp⟩⟩
end Go.Proofs.Ytokocigmchfdfaa
