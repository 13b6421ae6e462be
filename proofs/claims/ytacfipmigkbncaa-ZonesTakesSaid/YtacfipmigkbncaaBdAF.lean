import Derived.Test.YtacfipmigkbncaaBdM
import Derived.Test.YtacfipmigkbncaaBdAD

/- How many blocks of an order a zone has room for, as a number of regions: plain. -/
namespace Go.Proofs.Ytacfipmigkbncaa
set_option linter.unusedSimpArgs false
set_option linter.unusedVariables false

theorem count_iv (a c : Nat) : ∀ n, (List.range n).countP (fun j => decide (a ≤ j) && decide (j < a + c)) = min n (a + c) - min n a
  | 0 => by simp
  | n + 1 => by
    rw [List.range_succ, List.countP_append, count_iv a c n]
    by_cases h1 : a ≤ n <;> by_cases h2 : n < a + c <;> simp [h1, h2] <;> omega
theorem count_or {α : Type} (p q : α → Bool) : ∀ (l : List α), (∀ x ∈ l, p x = true → q x = false) → l.countP (fun x => p x || q x) = l.countP p + l.countP q
  | [], _ => rfl
  | x :: l, h => by
    have ih := count_or p q l (fun y hy => h y (by simp [hy]))
    have hx := h x (by simp)
    rw [List.countP_cons, List.countP_cons, List.countP_cons, ih]
    cases hp : p x <;> cases hq : q x <;> simp_all <;> omega
/-- the region j of the order k lies in a block -/
def regB (k j : Nat) (b : Bl) : Bool := decide (b.1 ≤ j * 2 ^ k) && decide (j * 2 ^ k + 2 ^ k ≤ b.1 + 2 ^ b.2)
theorem count_blk {N k : Nat} {b : Bl} (h : OkB N b) : (List.range (N / 2 ^ k)).countP (fun j => regB k j b) = 2 ^ b.2 / 2 ^ k := by
  obtain ⟨h1, h2, h3⟩ := h
  have hk := two_pos k
  by_cases ho : k ≤ b.2
  · obtain ⟨x, hx⟩ := Nat.dvd_of_mod_eq_zero (al_down h3 ho)
    have e : 2 ^ b.2 = 2 ^ k * 2 ^ (b.2 - k) := by rw [← Nat.pow_add]; congr 1; omega
    have hz := two_pos (b.2 - k)
    rw [e, Nat.mul_div_cancel_left _ (by omega)]
    have hle : x + 2 ^ (b.2 - k) ≤ N / 2 ^ k := by
      rw [Nat.le_div_iff_mul_le (by omega), Nat.add_mul, Nat.mul_comm x, ← hx, Nat.mul_comm (2 ^ (b.2 - k)), ← e]
      exact h2
    have hf : (fun j => regB k j b) = fun j => decide (x ≤ j) && decide (j < x + 2 ^ (b.2 - k)) := by
      funext j
      unfold regB
      rw [hx, e, Bool.eq_iff_iff]
      simp only [Bool.and_eq_true, decide_eq_true_eq]
      generalize 2 ^ (b.2 - k) = Z at *
      generalize 2 ^ k = J at *
      constructor
      · rintro ⟨g1, g2⟩
        refine ⟨?_, ?_⟩
        · rw [Nat.mul_comm J x] at g1
          exact Nat.le_of_mul_le_mul_right g1 (by omega)
        · have : (j + 1) * J ≤ (x + Z) * J := by rw [Nat.add_mul, Nat.add_mul, Nat.one_mul, Nat.mul_comm x J, Nat.mul_comm Z J]; exact g2
          have := Nat.le_of_mul_le_mul_right this (by omega)
          omega
      · rintro ⟨g1, g2⟩
        refine ⟨by rw [Nat.mul_comm J x]; exact Nat.mul_le_mul_right _ g1, ?_⟩
        have : (j + 1) * J ≤ (x + Z) * J := Nat.mul_le_mul_right _ (by omega)
        rw [Nat.add_mul, Nat.add_mul, Nat.one_mul, Nat.mul_comm x J, Nat.mul_comm Z J] at this
        exact this
    rw [hf, count_iv]
    omega
  · have hlt : 2 ^ b.2 < 2 ^ k := Nat.pow_lt_pow_right (by decide) (by omega)
    rw [Nat.div_eq_of_lt hlt, List.countP_eq_zero]
    intro j _
    unfold regB
    simp only [Bool.and_eq_true, decide_eq_true_eq]
    omega
theorem sum_regs {N k : Nat} : ∀ l : List Bl, (∀ b ∈ l, OkB N b) → AscB l → (l.map fun b => 2 ^ b.2 / 2 ^ k).sum = (List.range (N / 2 ^ k)).countP (fun j => l.any (regB k j))
  | [], _, _ => by simp
  | b :: l, h, ha => by
    obtain ⟨a1, a2⟩ := List.pairwise_cons.1 ha
    rw [List.map_cons, List.sum_cons, sum_regs l (fun c hc => h c (by simp [hc])) a2, ← count_blk (h b (by simp))]
    rw [← count_or]
    · congr 1
    · intro j _ hj
      rw [List.any_eq_false]
      intro c hc
      have := a1 c hc
      have hk := two_pos k
      unfold regB at hj ⊢
      simp only [Bool.and_eq_true, decide_eq_true_eq] at hj ⊢
      omega
/-- room for blocks of an order: regions that are free -/
def rgs (N : Nat) (f : Nat → Bool) (k : Nat) : Nat := (List.range (N / 2 ^ k)).countP (fun j => allF f (j * 2 ^ k) (2 ^ k))
theorem mst_rgs {N : Nat} {m : List Bl} (h : Vn N m) {k : Nat} (hk : k ≤ 6) : mst m k = rgs N (frM m) k := by
  unfold mst mstTo rgs
  rw [List.take_length, sum_regs m h.ok h.asc]
  congr 1
  funext j
  rw [Bool.eq_iff_iff, allF_iff, List.any_eq_true]
  have hpk := two_pos k
  constructor
  · rintro ⟨b, hb, hr⟩ i i1 i2
    unfold regB at hr
    simp only [Bool.and_eq_true, decide_eq_true_eq] at hr
    exact frM_iff.2 ⟨b, hb, by omega, by omega⟩
  · intro hall
    obtain ⟨b, hb, h1, h2, h3⟩ := h.bag.cover k (j * 2 ^ k) hk (Nat.mul_mod_left _ _) (fun i i1 i2 => frM_iff.1 (hall i i1 i2))
    exact ⟨b, hb, by unfold regB; simp only [Bool.and_eq_true, decide_eq_true_eq]; exact ⟨h1, h2⟩⟩
/-- a region that is given out -/
theorem rgs_take {N w k : Nat} {m : List Bl} (hw : w % 2 ^ k = 0) (hN : w + 2 ^ k ≤ N) (hall : ∀ i, inb w k i = true → frM m i = true) : rgs N (frM m) k = rgs N (frA m w k) k + 1 := by
  have hk := two_pos k
  obtain ⟨x, hx⟩ := Nat.dvd_of_mod_eq_zero hw
  have hx2 : w = x * 2 ^ k := by rw [hx, Nat.mul_comm]
  have hlt : x + 1 ≤ N / 2 ^ k := by
    rw [Nat.le_div_iff_mul_le (by omega), Nat.add_mul, Nat.one_mul, ← hx2]; exact hN
  have hone : (List.range (N / 2 ^ k)).countP (fun j => decide (x ≤ j) && decide (j < x + 1)) = 1 := by rw [count_iv]; omega
  unfold rgs
  rw [← hone, ← count_or]
  · congr 1
    funext j
    rw [Bool.eq_iff_iff, Bool.or_eq_true, allF_iff, allF_iff]
    simp only [Bool.and_eq_true, decide_eq_true_eq]
    constructor
    · intro ha
      by_cases e : j = x
      · right; omega
      · left
        intro i i1 i2
        unfold frA
        rw [ha i i1 i2, Bool.true_and]
        cases hi : inb w k i with
        | false => rfl
        | true =>
          exfalso
          obtain ⟨q1, q2⟩ := inb_iff.1 hi
          dsimp only at q1 q2
          have := nest (p := j * 2 ^ k) (j := k) (q := w) (k := k) (Nat.mul_mod_left _ _) hw (Nat.le_refl _) (by omega) (by omega)
          have e2 : j * 2 ^ k = x * 2 ^ k := by omega
          exact e (Nat.eq_of_mul_eq_mul_right hk e2)
    · rintro (ha | hj) i i1 i2
      · have := ha i i1 i2
        unfold frA at this
        simp only [Bool.and_eq_true] at this
        exact this.1
      · have e : j = x := by omega
        subst e
        exact hall i (inb_iff.2 ⟨by dsimp only; omega, by dsimp only; omega⟩)
  · intro j _ hj
    rw [allF_iff] at hj
    cases hd : (decide (x ≤ j) && decide (j < x + 1)) with
    | false => rfl
    | true =>
      exfalso
      simp only [Bool.and_eq_true, decide_eq_true_eq] at hd
      have e : j = x := by omega
      subst e
      have := hj w (by omega) (by omega)
      unfold frA at this
      have hi : inb w k w = true := inb_iff.2 ⟨Nat.le_refl _, by dsimp only; omega⟩
      rw [hi] at this
      simp at this
end Go.Proofs.Ytacfipmigkbncaa

/- Zones made by a script: plain. -/
namespace Go.Proofs.Ytacfipmigkbncaa
set_option linter.unusedSimpArgs false
set_option linter.unusedVariables false

theorem vn_vz {N : Nat} {m : List Bl} (h : Vn N m) : Vz N m := by
  have hone : ∀ j (hj : j < (m.map toI).length), oneB N (m.map toI)[j] = 0 := by
    intro j hj
    have hj' : j < m.length := by simpa using hj
    obtain ⟨o1, o2, o3⟩ := h.ok _ (List.getElem_mem hj')
    simp only [List.getElem_map, toI]
    refine oneB_ok (by dsimp only; omega) ?_ ?_
    · dsimp only; rw [Int.toNat_natCast, pow_nat]; omega
    · dsimp only; rw [Int.toNat_natCast, pow_nat]; exact_mod_cast o3
  have hasc := List.pairwise_iff_getElem.1 h.asc
  refine ⟨h, val_zchk ⟨by omega, by have := h.n; omega, fun j hj _ => hone j hj, fun j k hk hj _ => ?_, fun j hj _ => ?_⟩⟩
  · have := hasc j k (by simp at hk; omega) (by simpa using hk) hj
    simp only [List.getElem_map, toI]
    rw [Int.toNat_natCast, pow_nat]; omega
  · have hj' : j + 1 < m.length := by simpa using hj
    have h1 := hasc j (j + 1) (by omega) hj' (by omega)
    simp only [List.getElem_map, toI]
    refine twoB_ok ?_ ?_
    · dsimp only; rw [Int.toNat_natCast, pow_nat]; omega
    · rintro ⟨g1, g2, g3, g4⟩
      dsimp only at g1 g2 g3 g4
      rw [Int.toNat_natCast, pow_nat] at g3 g4
      have e : (m[j]'(by omega)).2 = (m[j + 1]).2 := by omega
      refine h.nb _ (List.getElem_mem (show j < m.length by omega)) _ (List.getElem_mem hj') ⟨e, by omega, by rw [e]; omega, ?_⟩
      rw [e, Nat.pow_succ, Nat.mul_comm]
      exact_mod_cast g4
theorem best_ex {m : List Bl} {q : Nat} (hex : ∃ c ∈ m, q ≤ c.2) : ∃ b, Best m q b := by
  have key : ∀ l : List Bl, (∃ c ∈ l, q ≤ c.2) → ∃ b, b ∈ l ∧ q ≤ b.2 ∧ (∀ c ∈ l, q ≤ c.2 → b.2 ≤ c.2) ∧ (∀ c ∈ l, c.2 = b.2 → b.1 ≤ c.1) := by
    intro l
    induction l with
    | nil => rintro ⟨c, hc, _⟩; cases hc
    | cons x l ih =>
      intro hex
      by_cases hl2 : ∃ c ∈ l, q ≤ c.2
      · obtain ⟨b, b1, b2, b3, b4⟩ := ih hl2
        by_cases hx : q ≤ x.2 ∧ (x.2 < b.2 ∨ (x.2 = b.2 ∧ x.1 ≤ b.1))
        · refine ⟨x, by simp, hx.1, fun c hc hq => ?_, fun c hc he => ?_⟩
          · rcases List.mem_cons.1 hc with rfl | hc
            · exact Nat.le_refl _
            · have := b3 c hc hq; omega
          · rcases List.mem_cons.1 hc with rfl | hc
            · exact Nat.le_refl _
            · rcases hx.2 with h | h
              · have := b3 c hc (by omega); omega
              · have := b4 c hc (by omega); omega
        · refine ⟨b, by simp [b1], b2, fun c hc hq => ?_, fun c hc he => ?_⟩
          · rcases List.mem_cons.1 hc with rfl | hc
            · omega
            · exact b3 c hc hq
          · rcases List.mem_cons.1 hc with rfl | hc
            · omega
            · exact b4 c hc he
      · obtain ⟨c, hc, hq⟩ := hex
        rcases List.mem_cons.1 hc with rfl | hc
        · refine ⟨c, by simp, hq, fun d hd hq2 => ?_, fun d hd he => ?_⟩
          · rcases List.mem_cons.1 hd with rfl | hd
            · exact Nat.le_refl _
            · exact absurd ⟨d, hd, hq2⟩ hl2
          · rcases List.mem_cons.1 hd with rfl | hd
            · exact Nat.le_refl _
            · exact absurd ⟨d, hd, by omega⟩ hl2
        · exact absurd ⟨c, hc, hq⟩ hl2
  obtain ⟨b, b1, b2, b3, b4⟩ := key m hex
  exact ⟨b, b1, b2, b3, b4⟩
def isBest (m : List Bl) (k : Nat) (b : Bl) : Bool := decide (k ≤ b.2) && m.all fun c => !decide (k ≤ c.2) || decide (b.2 < c.2) || (decide (b.2 = c.2) && decide (b.1 ≤ c.1))
def bestOf (m : List Bl) (k : Nat) : Option Bl := m.find? (isBest m k)
theorem isBest_iff {m : List Bl} {k : Nat} {b : Bl} (hb : b ∈ m) : isBest m k b = true ↔ Best m k b := by
  unfold isBest
  rw [Bool.and_eq_true, decide_eq_true_eq, List.all_eq_true]
  constructor
  · rintro ⟨h1, h2⟩
    refine ⟨hb, h1, fun c hc hk => ?_, fun c hc he => ?_⟩
    · have := h2 c hc
      simp [hk] at this; omega
    · have := h2 c hc
      have hk : k ≤ c.2 := by omega
      simp [hk] at this; omega
  · intro h
    refine ⟨h.le, fun c hc => ?_⟩
    by_cases hk : k ≤ c.2
    · have h1 := h.ord c hc hk
      by_cases he : c.2 = b.2
      · have := h.fst c hc he
        simp [he, this]
      · have : b.2 < c.2 := by omega
        simp [this]
    · simp [hk]
theorem bestOf_some {m : List Bl} {k : Nat} {b : Bl} (h : bestOf m k = some b) : Best m k b := (isBest_iff (List.mem_of_find?_eq_some h)).1 (List.find?_some h)
theorem bestOf_none {m : List Bl} {k : Nat} (h : bestOf m k = none) : ∀ c ∈ m, c.2 < k := by
  intro c hc
  rcases Nat.lt_or_ge c.2 k with h1 | h1
  · exact h1
  · obtain ⟨b, hb⟩ := best_ex ⟨c, hc, h1⟩
    have := List.find?_eq_none.1 h b hb.mem
    exact absurd ((isBest_iff hb.mem).2 hb) this

/-- a zone, and what was given out of it -/
structure Gv (N : Nat) (m out : List Bl) : Prop where
  z : Vz N m
  ok : ∀ b ∈ out, OkB N b
  le : ∀ b ∈ out, b.2 ≤ 4
  dj : out.Pairwise (fun a b => a.1 + 2 ^ a.2 ≤ b.1 ∨ b.1 + 2 ^ b.2 ≤ a.1)
  fr : ∀ i, i < N → frM m i = !(out.any fun b => inb b.1 b.2 i)
theorem Gv.step {N : Nat} {m out : List Bl} (h : Gv N m out) {k : Nat} (hk : k ≤ 4) {b : Bl} (hb : Best m k b) : Gv N (bld N (frA m b.1 k)) (out ++ [(b.1, k)]) ∧ Vz N (bld N (frA m b.1 k)) ∧ mst m k = mst (bld N (frA m b.1 k)) k + 1 := by
  obtain ⟨o1, o2, o3⟩ := h.z.v.ok b hb.mem
  have hle := Nat.pow_le_pow_right (n := 2) (by decide) hb.le
  have hal := al_down o3 hb.le
  have hres : Res N (frA m b.1 k) _ := take_law h.z.v hal hb.mem (Nat.le_refl _) (by omega) hb.le
  have hz := vn_vz hres.vn
  have hall : ∀ i, inb b.1 k i = true → frM m i = true := by
    intro i hi
    obtain ⟨i1, i2⟩ := inb_iff.1 hi
    dsimp only at i1 i2
    exact frM_iff.2 ⟨b, hb.mem, by omega, by omega⟩
  refine ⟨⟨hz, fun c hc => ?_, fun c hc => ?_, ?_, fun i hi => ?_⟩, hz, ?_⟩
  · rcases List.mem_append.1 hc with hc | hc
    · exact h.ok c hc
    · simp at hc; subst hc; exact ⟨by dsimp only; omega, by dsimp only; omega, hal⟩
  · rcases List.mem_append.1 hc with hc | hc
    · exact h.le c hc
    · simp at hc; subst hc; exact hk
  · rw [List.pairwise_append]
    refine ⟨h.dj, by simp, fun c hc d hd => ?_⟩
    simp at hd; subst hd
    have hcok := h.ok c hc
    rcases Nat.lt_or_ge b.1 (c.1 + 2 ^ c.2) with g1 | g1
    · rcases Nat.lt_or_ge c.1 (b.1 + 2 ^ k) with g2 | g2
      · exfalso
        have hpk := two_pos k
        have hpc := two_pos c.2
        have hf := hall (max b.1 c.1) (inb_iff.2 ⟨by dsimp only; omega, by dsimp only; omega⟩)
        rw [h.fr _ (by have := hcok.2.1; omega)] at hf
        simp only [Bool.not_eq_true', List.any_eq_false] at hf
        exact hf c hc (inb_iff.2 ⟨by dsimp only; omega, by dsimp only; omega⟩)
      · exact .inr g2
    · exact .inl g1
  · rw [hres.fr i]
    unfold frA
    rw [h.fr i hi, List.any_append]
    simp
  · rw [mst_rgs h.z.v (by omega), mst_rgs hres.vn (by omega), rgs_take hal (by omega) hall]
    have e : frM (bld N (frA m b.1 k)) = frA m b.1 k := funext hres.fr
    rw [e]
end Go.Proofs.Ytacfipmigkbncaa
