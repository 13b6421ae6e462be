/- A flat memory: sorted lists of cells are what they hold; what a page's words say. -/
import Derived.Test.YtnclclpfmldocaaGreatFlAG
import Derived.Test.YtnclclpfmldocaaGreatFlI
namespace Go.Proofs.YtnclclpfmldocaaGreat
open Go.RowKit
set_option maxRecDepth 100000

theorem bef_irr (a : Cl) : ¬ Bef a a := by unfold Bef; omega
/-- sorted lists with the same members are equal -/
theorem srt_ext : ∀ {a b : List Cl}, Srt a → Srt b → (∀ c, c ∈ a ↔ c ∈ b) → a = b
  | [], [], _, _, _ => rfl
  | [], y :: b, _, _, h => absurd ((h y).2 (by simp)) (by simp)
  | x :: a, [], _, _, h => absurd ((h x).1 (by simp)) (by simp)
  | x :: a, y :: b, ha, hb, h => by
    obtain ⟨a1, a2⟩ := List.pairwise_cons.1 ha
    obtain ⟨b1, b2⟩ := List.pairwise_cons.1 hb
    have hxy : x = y := by
      rcases List.mem_cons.1 ((h x).1 (by simp)) with e | hx
      · exact e
      · rcases List.mem_cons.1 ((h y).2 (by simp)) with e | hy
        · exact e.symm
        · exact absurd (bef_trans (b1 x hx) (a1 y hy)) (bef_irr _)
    subst hxy
    rw [srt_ext a2 b2 fun c => ⟨fun hc => ?_, fun hc => ?_⟩]
    · rcases List.mem_cons.1 ((h c).1 (by simp [hc])) with rfl | h'
      · exact absurd (a1 _ hc) (bef_irr _)
      · exact h'
    · rcases List.mem_cons.1 ((h c).2 (by simp [hc])) with rfl | h'
      · exact absurd (b1 _ hc) (bef_irr _)
      · exact h'
theorem flchk_wrd {al : List Bool} {mp : List Nat} {cs : List Cl} (h : flchk al mp cs = 0) : ∀ c ∈ cs, Wrd c.2.2.1 := fun c hc => (ck1_zero (flchk_pgs h c hc)).2.2.1
theorem rdV_iff {al : List Bool} {mp : List Nat} {cs : List Cl} (h : flchk al mp cs = 0) {p g : Int} {w v : Nat} (hw : w < 8) (hv : v ≠ 0) : rdV cs p g w = v ↔ (p, g, (w : Int), v) ∈ cs := by
  have hs := flchk_srt h
  have hW := flchk_wrd h
  constructor
  · intro hr
    by_cases hc : ∃ hh : posK cs p g w < cs.length, kc cs[posK cs p g w] p g w = 0
    · obtain ⟨h1, h2⟩ := hc
      rw [rdV_hit hs hW hw h1 h2] at hr
      obtain ⟨e1, e2, e3⟩ := kc_zero.1 h2
      have hm := List.getElem_mem h1
      generalize cs[posK cs p g w] = x at *
      obtain ⟨x1, x2, x3, x4⟩ := x
      dsimp only at hr e1 e2 e3
      subst hr e1 e2 e3
      exact hm
    · rw [rdV_miss hs hW hw hc] at hr
      exact absurd hr.symm hv
  · intro hc
    obtain ⟨i, hi, he⟩ := List.getElem_of_mem hc
    rw [rdV_hit hs hW hw hi (kc_zero.2 (by rw [he]; exact ⟨rfl, rfl, rfl⟩)), he]
theorem mem_zC {cs : List Cl} {p : Int} {c : Cl} : c ∈ zC cs p ↔ c.1 = 0 ∧ (p, c.2) ∈ cs := by
  unfold zC ofP
  rw [List.mem_map]
  constructor
  · rintro ⟨d, hd, rfl⟩
    obtain ⟨d1, d2⟩ := List.mem_filter.1 hd
    have : d.1 = p := by simpa using d2
    subst this
    exact ⟨rfl, d1⟩
  · rintro ⟨h1, h2⟩
    obtain ⟨c1, c2⟩ := c
    exact ⟨(p, c2), List.mem_filter.2 ⟨h2, by simp⟩, by dsimp only at h1; rw [h1]; rfl⟩
theorem zC_srt {cs : List Cl} (h : Srt cs) (p : Int) : Srt (zC cs p) := by
  unfold zC Srt
  rw [List.pairwise_map]
  have hp : (ofP cs p).Pairwise Bef := List.Pairwise.sublist List.filter_sublist h
  refine List.Pairwise.imp_of_mem (fun {a b} ha hb hab => ?_) hp
  have a1 := (List.mem_filter.1 ha).2
  have b1 := (List.mem_filter.1 hb).2
  simp only [decide_eq_true_eq] at a1 b1
  unfold Bef cpC at *
  dsimp only
  omega
def pcO (al : List Bool) (mp : List Nat) (cs : List Cl) (p g : Int) : List Nat := if mapE al mp cs p g 0 = 0 then pgC cs p g else [0, 0, 0, 0, 0, 0, 0, 0]
theorem pcO_len {al : List Bool} {mp : List Nat} {cs : List Cl} (hW : ∀ c ∈ cs, Wrd c.2.2.1) (p g : Int) : (pcO al mp cs p g).length = 8 := by
  unfold pcO
  split
  · exact pgC_len hW p g
  · rfl
theorem lvs_one {al : List Bool} {mp : List Nat} {cs : List Cl} {p : Int} (h0 : flchk al mp cs = 0) (h1 : Prc p) (h2 : alv al p = true) : lvsE al mp cs [p] = 0 := by
  unfold lvsE
  rw [if_neg (fun h => h h0)]
  simp [h1, h2]
/-- a word of a page -/
theorem pcO_get {al : List Bool} {mp : List Nat} {cs : List Cl} {p : Int} (h0 : flchk al mp cs = 0) (h1 : Prc p) (h2 : alv al p = true) {g : Nat} (hg : g < 64) {w : Nat} (hw : w < 8) : (pcO al mp cs p g)[w]?.getD 0 = rdV cs p g w := by
  have hE : mapE al mp cs p (g : Int) 0 = if mpd mp p g = false then 12 else 0 := by
    unfold mapE
    rw [lvs_one h0 h1 h2, if_neg (by decide), if_neg]
    intro h
    exact h ⟨⟨by omega, by omega⟩, ⟨by decide, by decide⟩⟩
  unfold pcO
  rw [hE]
  cases hm : mpd mp p g with
  | true => rfl
  | false =>
    rw [if_pos rfl, if_neg (by decide)]
    rcases Nat.eq_zero_or_pos (rdV cs p g w) with h | h
    · rw [h]
      have : w = 0 ∨ w = 1 ∨ w = 2 ∨ w = 3 ∨ w = 4 ∨ w = 5 ∨ w = 6 ∨ w = 7 := by omega
      rcases this with rfl | rfl | rfl | rfl | rfl | rfl | rfl | rfl <;> rfl
    · have := (rdV_iff h0 hw (v := rdV cs p g w) (by omega)).1 rfl
      have := (ck1_zero (flchk_pgs h0 _ this)).2.2.2.2
      dsimp only at this
      rw [hm] at this; cases this
theorem zC_iff {al : List Bool} {mp : List Nat} {cs : List Cl} {k j : Nat} (h : lvsE al mp cs [(k : Int) + 1, (j : Int) + 1] = 0) :
    (∀ g : Nat, g < 64 → pcO al mp cs ((k : Int) + 1) g = pcO al mp cs ((j : Int) + 1) g) ↔ zC cs ((k : Int) + 1) = zC cs ((j : Int) + 1) := by
  obtain ⟨h0, ⟨hp, hq⟩, ha, hb⟩ := lvs2_zero h
  have hs := flchk_srt h0
  have hW := flchk_wrd h0
  generalize (k : Int) + 1 = p at *
  generalize (j : Int) + 1 = q at *
  have key : ∀ (p q : Int), Prc p → Prc q → alv al p = true → alv al q = true → (∀ g : Nat, g < 64 → pcO al mp cs p g = pcO al mp cs q g) → ∀ c ∈ zC cs p, c ∈ zC cs q := by
    intro p q hp hq ha hb hh c hc
    obtain ⟨c1, c2⟩ := mem_zC.1 hc
    obtain ⟨k1, k2, k3, k4, k5⟩ := ck1_zero (flchk_pgs h0 _ c2)
    obtain ⟨c0, g, w, v⟩ := c
    dsimp only at c1 c2 k1 k2 k3 k4 k5
    obtain ⟨g1, g2⟩ := k2
    obtain ⟨w1, w2⟩ := k3
    obtain ⟨g, rfl⟩ := Int.eq_ofNat_of_zero_le g1
    obtain ⟨w, rfl⟩ := Int.eq_ofNat_of_zero_le w1
    have e1 := (rdV_iff h0 (w := w) (by omega) k4).2 c2
    rw [← pcO_get h0 hp ha (by omega) (by omega), hh g (by omega), pcO_get h0 hq hb (by omega) (by omega)] at e1
    exact mem_zC.2 ⟨c1, (rdV_iff h0 (by omega) k4).1 e1⟩
  constructor
  · intro hh
    exact srt_ext (zC_srt hs _) (zC_srt hs _) fun c => ⟨key p q hp hq ha hb hh c, key q p hq hp hb ha (fun g hg => (hh g hg).symm) c⟩
  · intro hz g hg
    refine List.ext_getElem (by rw [pcO_len hW, pcO_len hW]) fun w w1 w2 => ?_
    rw [pcO_len hW] at w1
    have e1 := pcO_get h0 hp ha hg w1
    have e2 := pcO_get h0 hq hb hg w1
    rw [List.getElem?_eq_getElem (by rw [pcO_len hW]; exact w1)] at e1 e2
    simp only [Option.getD_some] at e1 e2
    rw [e1, e2]
    have one : ∀ (p q : Int), zC cs p = zC cs q → rdV cs p g w ≠ 0 → rdV cs q g w = rdV cs p g w := by
      intro p q hz hv
      have m1 := (rdV_iff h0 (p := p) w1 hv).1 rfl
      have m2 : ((0, (g : Int), (w : Int), rdV cs p g w) : Cl) ∈ zC cs p := mem_zC.2 ⟨rfl, m1⟩
      rw [hz] at m2
      exact (rdV_iff h0 w1 hv).2 (mem_zC.1 m2).2
    by_cases hv : rdV cs p g w = 0
    · by_cases hv2 : rdV cs q g w = 0
      · rw [hv, hv2]
      · exact one q p hz.symm hv2
    · exact (one p q hz hv).symm
end Go.Proofs.YtnclclpfmldocaaGreat
