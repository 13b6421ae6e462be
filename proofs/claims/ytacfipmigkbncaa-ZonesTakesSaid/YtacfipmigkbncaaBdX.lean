import Derived.Test.YtacfipmigkbncaaBdI
import Derived.Test.YtacfipmigkbncaaBdG

/- The plain law of zones: which blocks a set of free frames has. -/
namespace Go.Proofs.Ytacfipmigkbncaa
set_option linter.unusedSimpArgs false
set_option linter.unusedVariables false

theorem two_pos (k : Nat) : 1 ≤ 2 ^ k := Nat.one_le_two_pow
theorem two_succ (k : Nat) : 2 ^ (k + 1) = 2 ^ k + 2 ^ k := by rw [Nat.pow_succ]; omega
/-- aligned regions lie in one another or apart -/
theorem nest {p j q k : Nat} (hp : p % 2 ^ j = 0) (hq : q % 2 ^ k = 0) (hjk : j ≤ k) (h1 : p < q + 2 ^ k) (h2 : q < p + 2 ^ j) : q ≤ p ∧ p + 2 ^ j ≤ q + 2 ^ k := by
  obtain ⟨x, rfl⟩ := Nat.dvd_of_mod_eq_zero hp
  obtain ⟨y, rfl⟩ := Nat.dvd_of_mod_eq_zero hq
  have e : 2 ^ k = 2 ^ j * 2 ^ (k - j) := by rw [← Nat.pow_add]; congr 1; omega
  have e2 : 2 ^ k * y = 2 ^ j * (2 ^ (k - j) * y) := by rw [e, Nat.mul_assoc]
  have hj := two_pos j
  rw [e2] at h1 h2 ⊢
  rw [e] at h1 ⊢
  generalize 2 ^ (k - j) * y = Y at *
  generalize 2 ^ (k - j) = Z at *
  generalize 2 ^ j = J at *
  have a1 : x < Y + Z := by
    have : J * x < J * (Y + Z) := by rw [Nat.mul_add]; exact h1
    exact Nat.lt_of_mul_lt_mul_left this
  have a2 : Y < x + 1 := by
    have : J * Y < J * (x + 1) := by rw [Nat.mul_add, Nat.mul_one]; exact h2
    exact Nat.lt_of_mul_lt_mul_left this
  constructor
  · exact Nat.mul_le_mul_left _ (by omega)
  · have : J * (x + 1) ≤ J * (Y + Z) := Nat.mul_le_mul_left _ (by omega)
    rw [Nat.mul_add, Nat.mul_add, Nat.mul_one] at this
    exact this
theorem al_down {p j k : Nat} (h : p % 2 ^ k = 0) (hjk : j ≤ k) : p % 2 ^ j = 0 := by
  have e : 2 ^ k = 2 ^ j * 2 ^ (k - j) := by rw [← Nat.pow_add]; congr 1; omega
  have : 2 ^ j ∣ p := Nat.dvd_trans ⟨_, e⟩ (Nat.dvd_of_mod_eq_zero h)
  exact Nat.mod_eq_zero_of_dvd this
theorem al_half {p k : Nat} (h : p % 2 ^ (k + 1) = 0) : (p + 2 ^ k) % 2 ^ k = 0 := by
  rw [Nat.add_mod_right]; exact al_down h (by omega)
/-- the place of the parent -/
def pr (a k : Nat) : Nat := a / 2 ^ (k + 1) * 2 ^ (k + 1)
theorem pr_al (a k : Nat) : pr a k % 2 ^ (k + 1) = 0 := by unfold pr; rw [Nat.mul_comm]; exact Nat.mul_mod_right _ _
theorem pr_in {a k : Nat} (h : a % 2 ^ k = 0) : pr a k ≤ a ∧ a + 2 ^ k ≤ pr a k + 2 ^ (k + 1) := by
  have h1 : pr a k ≤ a := by unfold pr; exact Nat.div_mul_le_self _ _
  have h2 : a < pr a k + 2 ^ (k + 1) := by
    unfold pr
    have := Nat.lt_div_mul_add (a := a) (b := 2 ^ (k + 1)) (two_pos _)
    exact this
  exact nest h (pr_al a k) (by omega) h2 (by have := two_pos k; omega)
theorem pr_half {a k : Nat} (h : a % 2 ^ k = 0) : pr a k = a ∨ pr a k + 2 ^ k = a := by
  obtain ⟨h1, h2⟩ := pr_in h
  have h3 := two_succ k
  have h4 : pr a k % 2 ^ k = 0 := al_down (pr_al a k) (by omega)
  by_cases hlt : pr a k + 2 ^ k ≤ a
  · right; omega
  · left
    have := nest (p := a) (j := k) (q := pr a k) (k := k) h h4 (Nat.le_refl _) (by omega) (by have := two_pos k; omega)
    omega

/-- a block within N frames -/
def OkB (N : Nat) (b : Bl) : Prop := b.2 ≤ 6 ∧ b.1 + 2 ^ b.2 ≤ N ∧ b.1 % 2 ^ b.2 = 0
def InB (b : Bl) (i : Nat) : Prop := b.1 ≤ i ∧ i < b.1 + 2 ^ b.2
def Cov (S : Bl → Prop) (i : Nat) : Prop := ∃ b, S b ∧ InB b i
/-- blocks apart from each other, none beside its buddy -/
structure Bag (N : Nat) (S : Bl → Prop) : Prop where
  ok : ∀ b, S b → OkB N b
  dj : ∀ a b, S a → S b → a ≠ b → a.1 + 2 ^ a.2 ≤ b.1 ∨ b.1 + 2 ^ b.2 ≤ a.1
  nb : ∀ a b, S a → S b → ¬ (a.2 = b.2 ∧ a.2 < 6 ∧ b.1 = a.1 + 2 ^ a.2 ∧ a.1 % 2 ^ (a.2 + 1) = 0)
theorem Bag.eq {N : Nat} {S : Bl → Prop} (h : Bag N S) {a b : Bl} (ha : S a) (hb : S b) {i : Nat} (h1 : InB a i) (h2 : InB b i) : a = b := by
  rcases Classical.em (a = b) with h3 | h3
  · exact h3
  · obtain ⟨u, v⟩ := h1
    obtain ⟨u2, v2⟩ := h2
    rcases h.dj a b ha hb h3 with h4 | h4 <;> omega
theorem Bag.sub {N : Nat} {S T : Bl → Prop} (h : Bag N S) (hs : ∀ b, T b → S b) : Bag N T :=
  ⟨fun b hb => h.ok b (hs b hb), fun a b ha hb => h.dj a b (hs a ha) (hs b hb), fun a b ha hb => h.nb a b (hs a ha) (hs b hb)⟩
/-- an aligned region that is free lies in one block -/
theorem Bag.cover {N : Nat} {S : Bl → Prop} (h : Bag N S) : ∀ (j a : Nat), j ≤ 6 → a % 2 ^ j = 0 → (∀ i, a ≤ i → i < a + 2 ^ j → Cov S i) → ∃ b, S b ∧ b.1 ≤ a ∧ a + 2 ^ j ≤ b.1 + 2 ^ b.2 ∧ j ≤ b.2
  | 0, a, _, _, hc => by
    obtain ⟨b, hb, h1, h2⟩ := hc a (Nat.le_refl _) (by simp)
    exact ⟨b, hb, h1, by simp; omega, Nat.zero_le _⟩
  | j + 1, a, hj, ha, hc => by
    have hs := two_succ j
    have hpj := two_pos j
    obtain ⟨b, hb, b1, b2, b3⟩ := Bag.cover h j a (by omega) (al_down ha (by omega)) (fun i h1 h2 => hc i h1 (by omega))
    obtain ⟨c, hcS, c1, c2, c3⟩ := Bag.cover h j (a + 2 ^ j) (by omega) (al_half ha) (fun i h1 h2 => hc i (by omega) (by omega))
    have big : ∀ d, S d → d.1 ≤ a + 2 ^ j → a < d.1 + 2 ^ d.2 → j + 1 ≤ d.2 → d.1 ≤ a ∧ a + 2 ^ (j + 1) ≤ d.1 + 2 ^ d.2 := fun d hd d1 d2 d3 => nest ha (h.ok d hd).2.2 d3 d2 (by omega)
    by_cases hb3 : j + 1 ≤ b.2
    · obtain ⟨e1, e2⟩ := big b hb (by omega) (by omega) hb3
      exact ⟨b, hb, e1, e2, hb3⟩
    · by_cases hc3 : j + 1 ≤ c.2
      · obtain ⟨e1, e2⟩ := nest ha (h.ok c hcS).2.2 hc3 (by omega) (by omega)
        exact ⟨c, hcS, e1, e2, hc3⟩
      · exfalso
        have e1 : b.2 = j := by omega
        have e2 : c.2 = j := by omega
        rw [e1] at b2
        rw [e2] at c2
        have e3 : b.1 = a := by omega
        have hcj := (h.ok c hcS).2.2
        rw [e2] at hcj
        have e4 : c.1 = a + 2 ^ j := by omega
        exact h.nb b c hb hcS ⟨by omega, by omega, by rw [e1, e3]; exact e4, by rw [e1, e3]; exact ha⟩
/-- a block that is as great as it can be -/
def Canon (N : Nat) (f : Nat → Prop) (b : Bl) : Prop := OkB N b ∧ (∀ i, InB b i → f i) ∧ (b.2 = 6 ∨ ¬ ∀ i, pr b.1 b.2 ≤ i → i < pr b.1 b.2 + 2 ^ (b.2 + 1) → f i)
theorem Bag.canon {N : Nat} {S : Bl → Prop} (h : Bag N S) (b : Bl) : S b ↔ Canon N (Cov S) b := by
  constructor
  · intro hb
    have ho := h.ok b hb
    refine ⟨ho, fun i hi => ⟨b, hb, hi⟩, ?_⟩
    rcases Classical.em (b.2 = 6) with h6 | h6
    · exact .inl h6
    · right
      intro hall
      obtain ⟨h1, h2⟩ := pr_in ho.2.2
      obtain ⟨c, hc, c1, c2, c3⟩ := h.cover (b.2 + 1) (pr b.1 b.2) (by have := ho.1; omega) (pr_al _ _) hall
      have hp := two_pos b.2
      have : b = c := h.eq hb hc (i := b.1) ⟨Nat.le_refl _, by omega⟩ ⟨by omega, by omega⟩
      rw [← this] at c3
      omega
  · rintro ⟨ho, hall, hmax⟩
    obtain ⟨c, hc, c1, c2, c3⟩ := h.cover b.2 b.1 ho.1 ho.2.2 (fun i h1 h2 => hall i ⟨h1, h2⟩)
    have hco := h.ok c hc
    have hp := two_pos b.2
    by_cases he : c.2 = b.2
    · have e1 : c.1 = b.1 := by rw [he] at c2; omega
      have : c = b := Prod.ext e1 he
      exact this ▸ hc
    · exfalso
      have hlt : b.2 + 1 ≤ c.2 := by omega
      obtain ⟨h1, h2⟩ := pr_in ho.2.2
      obtain ⟨g1, g2⟩ := nest (pr_al b.1 b.2) hco.2.2 hlt (by omega) (by have := two_pos c.2; omega)
      rcases hmax with h6 | hm
      · have := hco.1; omega
      · exact hm fun i i1 i2 => ⟨c, hc, by omega, by omega⟩

/-- the blocks of a set of frames, as the specification finds them -/
def allF (f : Nat → Bool) (a n : Nat) : Bool := (List.range n).all fun i => f (a + i)
theorem allF_iff {f : Nat → Bool} {a n : Nat} : allF f a n = true ↔ ∀ i, a ≤ i → i < a + n → f i = true := by
  unfold allF
  rw [List.all_eq_true]
  constructor
  · intro h i h1 h2
    have := h (i - a) (by simp; omega)
    rwa [show a + (i - a) = i by omega] at this
  · intro h i hi
    exact h _ (by omega) (by have := List.mem_range.1 hi; omega)
def fitB (N : Nat) (f : Nat → Bool) (a o : Nat) : Bool := decide (a % 2 ^ o = 0) && (decide (a + 2 ^ o ≤ N) && allF f a (2 ^ o))
def bst (N : Nat) (f : Nat → Bool) (a : Nat) : Nat → Nat
  | 0 => 0
  | o + 1 => if fitB N f a o then o else bst N f a o
def bldG (N : Nat) (f : Nat → Bool) : Nat → Nat → List Bl
  | 0, _ => []
  | n + 1, a => if a < N then (if f a then (a, bst N f a 7) :: bldG N f n (a + 2 ^ bst N f a 7) else bldG N f n (a + 1)) else []
def bld (N : Nat) (f : Nat → Bool) : List Bl := bldG N f N 0
theorem fitB_iff {N : Nat} {f : Nat → Bool} {a o : Nat} : fitB N f a o = true ↔ a % 2 ^ o = 0 ∧ a + 2 ^ o ≤ N ∧ ∀ i, a ≤ i → i < a + 2 ^ o → f i = true := by
  unfold fitB; simp [allF_iff]
theorem bst_fit {N : Nat} {f : Nat → Bool} {a : Nat} (h : fitB N f a 0 = true) : ∀ k, fitB N f a (bst N f a k) = true
  | 0 => h
  | k + 1 => by
    rw [bst]; split
    · assumption
    · exact bst_fit h k
theorem bst_lt {N : Nat} {f : Nat → Bool} {a : Nat} : ∀ k, bst N f a (k + 1) ≤ k
  | 0 => by rw [bst]; split <;> simp [bst]
  | k + 1 => by
    rw [bst]; split
    · exact Nat.le_refl _
    · have := bst_lt (N := N) (f := f) (a := a) k; omega
theorem bst_max {N : Nat} {f : Nat → Bool} {a o : Nat} (h : fitB N f a o = true) : ∀ k, o < k → o ≤ bst N f a k
  | 0, h0 => by omega
  | k + 1, h0 => by
    rw [bst]; split
    · omega
    · rename_i hn
      have : o ≠ k := fun e => hn (e ▸ h)
      exact bst_max h k (by omega)
theorem fit0 {N : Nat} {f : Nat → Bool} {a : Nat} (h : a < N) (hf : f a = true) : fitB N f a 0 = true := by
  refine fitB_iff.2 ⟨by simp [Nat.mod_one], by simp; omega, fun i h1 h2 => ?_⟩
  have e : i = a := by simp at h2; omega
  rw [e]; exact hf

/-- no region that is free lies across the place -/
def Str (N : Nat) (f : Nat → Bool) (a : Nat) : Prop := ∀ j p, j ≤ 6 → p % 2 ^ j = 0 → p < a → a < p + 2 ^ j → p + 2 ^ j ≤ N → ¬ ∀ i, p ≤ i → i < p + 2 ^ j → f i = true
theorem str_zero (N : Nat) (f : Nat → Bool) : Str N f 0 := fun j p _ _ h => by omega
theorem str_skip {N : Nat} {f : Nat → Bool} {a : Nat} (hf : f a = false) : Str N f (a + 1) := by
  intro j p _ _ h1 h2 _ hall
  have := hall a (by omega) (by omega)
  rw [hf] at this; cases this
theorem str_blk {N : Nat} {f : Nat → Bool} {a : Nat} (hs : Str N f a) (h : a < N) (hf : f a = true) : Str N f (a + 2 ^ bst N f a 7) := by
  intro j p hj hp h1 h2 hN hall
  obtain ⟨b1, b2, b3⟩ := fitB_iff.1 (bst_fit (fit0 h hf) 7)
  generalize hb : bst N f a 7 = o at *
  have ho := two_pos o
  by_cases c1 : p < a
  · exact hs j p hj hp c1 (by omega) hN hall
  by_cases c2 : p = a
  · subst c2
    have := bst_max (fitB_iff.2 ⟨hp, hN, hall⟩) 7 (by omega)
    rw [hb] at this
    have := Nat.pow_le_pow_right (n := 2) (by decide) this
    omega
  · rcases Nat.le_total j o with hjo | hjo
    · have := nest hp b1 hjo (by omega) (by omega); omega
    · have := nest (p := a) (j := o) (q := p) (k := j) b1 hp hjo (by omega) (by omega); omega

theorem bldG_mem {N : Nat} {f : Nat → Bool} (hfN : ∀ i, f i = true → i < N) : ∀ (n a : Nat), N ≤ a + n → Str N f a → ∀ b : Bl, b ∈ bldG N f n a ↔ a ≤ b.1 ∧ Canon N (fun i => f i = true) b
  | 0, a, hn, _, b => by
    simp only [bldG, List.not_mem_nil, false_iff]
    rintro ⟨h1, ⟨h2, h3, h4⟩, _⟩
    have := two_pos b.2
    omega
  | n + 1, a, hn, hs, b => by
    rw [bldG]
    by_cases hlt : a < N
    · rw [if_pos hlt]
      by_cases hf : f a = true
      · rw [if_pos hf, List.mem_cons]
        obtain ⟨b1, b2, b3⟩ := fitB_iff.1 (bst_fit (fit0 hlt hf) 7)
        have hmax := fun o h => bst_max (N := N) (f := f) (a := a) (o := o) h 7
        have h6 := bst_lt (N := N) (f := f) (a := a) 6
        have hstr := str_blk hs hlt hf
        generalize hb : bst N f a 7 = o at *
        have ho := two_pos o
        rw [bldG_mem hfN n (a + 2 ^ o) (by omega) hstr b]
        constructor
        · rintro (rfl | ⟨h1, h2⟩)
          · refine ⟨Nat.le_refl _, ⟨h6, b2, b1⟩, fun i hi => b3 i hi.1 hi.2, ?_⟩
            by_cases h66 : o = 6
            · exact .inl h66
            · right
              intro hall
              obtain ⟨p1, p2⟩ := pr_in b1
              dsimp only at hall
              rcases pr_half b1 with hp | hp
              · rw [hp] at hall
                have hN : a + 2 ^ (o + 1) ≤ N := by
                  have h8 := two_pos (o + 1)
                  have := hfN _ (hall (a + 2 ^ (o + 1) - 1) (by omega) (by omega))
                  omega
                have := hmax (o + 1) (fitB_iff.2 ⟨by rw [← hp]; exact pr_al a o, hN, hall⟩) (by omega)
                omega
              · have hN : pr a o + 2 ^ (o + 1) ≤ N := by have := two_succ o; omega
                exact hs (o + 1) (pr a o) (by omega) (pr_al a o) (by omega) (by have := two_succ o; omega) hN hall
          · exact ⟨by omega, h2⟩
        · rintro ⟨h1, h2⟩
          obtain ⟨⟨c1, c2, c3⟩, c4, c5⟩ := h2
          have hbp := two_pos b.2
          by_cases e1 : b.1 = a
          · left
            have hle := hmax b.2 (fitB_iff.2 ⟨by rw [← e1]; exact c3, by rw [← e1]; exact c2, fun i i1 i2 => c4 i ⟨by omega, by omega⟩⟩) (by omega)
            by_cases e2 : b.2 = o
            · exact Prod.ext e1 e2
            · exfalso
              rcases c5 with c5 | c5
              · omega
              · apply c5
                obtain ⟨p1, p2⟩ := pr_in c3
                obtain ⟨g1, g2⟩ := nest (pr_al b.1 b.2) b1 (by omega) (by omega) (by omega)
                exact fun i i1 i2 => b3 i (by omega) (by omega)
          · right
            refine ⟨?_, ⟨c1, c2, c3⟩, c4, c5⟩
            rcases Nat.lt_or_ge b.1 (a + 2 ^ o) with hh | hh
            · exfalso
              rcases Nat.lt_or_ge b.2 o with ho2 | ho2
              · rcases c5 with c5 | c5
                · omega
                · apply c5
                  obtain ⟨p1, p2⟩ := pr_in c3
                  obtain ⟨g1, g2⟩ := nest (pr_al b.1 b.2) b1 (by omega) (by omega) (by omega)
                  exact fun i i1 i2 => b3 i (by omega) (by omega)
              · have := nest (p := a) (j := o) (q := b.1) (k := b.2) b1 c3 ho2 (by omega) (by omega)
                omega
            · exact hh
      · rw [if_neg hf, bldG_mem hfN n (a + 1) (by omega) (str_skip (by simpa using hf)) b]
        constructor
        · rintro ⟨h1, h2⟩; exact ⟨by omega, h2⟩
        · rintro ⟨h1, h2⟩
          refine ⟨?_, h2⟩
          rcases Nat.lt_or_ge a b.1 with hh | hh
          · exact hh
          · exfalso
            have e : b.1 = a := by omega
            have := h2.2.1 b.1 ⟨Nat.le_refl _, by have := two_pos b.2; omega⟩
            rw [e] at this
            exact hf this
    · rw [if_neg hlt]
      simp only [List.not_mem_nil, false_iff]
      rintro ⟨h1, ⟨h2, h3, h4⟩, _⟩
      have := two_pos b.2
      omega
end Go.Proofs.Ytacfipmigkbncaa

/- The plain law of zones: shelves, and what giving out and freeing does. -/
namespace Go.Proofs.Ytacfipmigkbncaa
set_option linter.unusedSimpArgs false
set_option linter.unusedVariables false

abbrev AscB (l : List Bl) : Prop := l.Pairwise fun a b => a.1 + 2 ^ a.2 ≤ b.1
theorem bldG_asc {N : Nat} {f : Nat → Bool} : ∀ (n a : Nat), (∀ b ∈ bldG N f n a, a ≤ b.1) ∧ AscB (bldG N f n a)
  | 0, a => by simp [bldG]
  | n + 1, a => by
    rw [bldG]
    by_cases hlt : a < N
    · rw [if_pos hlt]
      by_cases hf : f a = true
      · rw [if_pos hf]
        obtain ⟨h1, h2⟩ := bldG_asc (N := N) (f := f) n (a + 2 ^ bst N f a 7)
        refine ⟨fun b hb => ?_, List.pairwise_cons.2 ⟨fun b hb => h1 b hb, h2⟩⟩
        rcases List.mem_cons.1 hb with rfl | hb
        · exact Nat.le_refl _
        · have := h1 b hb; have := two_pos (bst N f a 7); omega
      · rw [if_neg hf]
        obtain ⟨h1, h2⟩ := bldG_asc (N := N) (f := f) n (a + 1)
        exact ⟨fun b hb => by have := h1 b hb; omega, h2⟩
    · rw [if_neg hlt]; simp
theorem asc_lt {l : List Bl} (h : AscB l) : l.Pairwise (fun a b => a.1 < b.1) := h.imp (fun {a b} h => by have := two_pos a.2; omega)
theorem asc_nd {l : List Bl} (h : AscB l) : l.Nodup := (asc_lt h).imp (fun {a b} h e => by rw [e] at h; exact Nat.lt_irrefl _ h)
theorem bag_bld {N : Nat} {S : Bl → Prop} {f : Nat → Bool} (h : Bag N S) (hf : ∀ i, f i = true ↔ Cov S i) (b : Bl) : b ∈ bld N f ↔ S b := by
  have hfN : ∀ i, f i = true → i < N := by
    intro i hi
    obtain ⟨c, hc, h1, h2⟩ := (hf i).1 hi
    have := (h.ok c hc).2.1
    omega
  unfold bld
  rw [bldG_mem hfN N 0 (by omega) (str_zero N f) b, h.canon b]
  have e : (fun i => f i = true) = Cov S := by funext i; exact propext (hf i)
  rw [e]
  simp

/-- the blocks of a shelf, as a set -/
def SL (L : Shf) (b : Bl) : Prop := b.2 ≤ 6 ∧ b.1 ∈ L b.2
theorem bagTo_SL {L : Shf} (b : Bl) : b ∈ bagTo L 7 ↔ SL L b := by rw [bagTo_mem]; unfold SL; constructor <;> rintro ⟨h1, h2⟩ <;> exact ⟨by omega, h2⟩
theorem bagTo_nd {L : Shf} (h : Sh L) : ∀ k, (bagTo L k).Nodup
  | 0 => by simp [bagTo]
  | k + 1 => by
    rw [bagTo]
    refine List.nodup_append.2 ⟨bagTo_nd h k, ?_, fun a ha b hb => ?_⟩
    · rw [List.Nodup, List.pairwise_map]
      exact (h.asc k).imp (fun {a b} hab e => by injection e with e1 _; omega)
    · rintro rfl
      have h1 := ((bagTo_mem k a).1 ha).1
      obtain ⟨x, _, rfl⟩ := List.mem_map.1 hb
      simp at h1
/-- a shelf's blocks in order are what the specification builds -/
theorem shelf_bld {N : Nat} {L : Shf} {f : Nat → Bool} (hL : Sh L) (h : Bag N (SL L)) (hf : ∀ i, f i = true ↔ Cov (SL L) i) : (bld N f).Perm (bagTo L 7) ∧ (bld N f).Pairwise (fun a b => a.1 < b.1) := by
  have ha := (bldG_asc (N := N) (f := f) N 0).2
  refine ⟨(List.perm_ext_iff_of_nodup (asc_nd ha) (bagTo_nd hL 7)).2 (fun b => ?_), asc_lt ha⟩
  rw [bagTo_SL]
  exact bag_bld h hf b

/-- a valid zone -/
structure Vn (N : Nat) (l : List Bl) : Prop where
  n : N ≤ 256
  ok : ∀ b ∈ l, OkB N b
  asc : AscB l
  nb : ∀ a ∈ l, ∀ b ∈ l, ¬ (a.2 = b.2 ∧ a.2 < 6 ∧ b.1 = a.1 + 2 ^ a.2 ∧ a.1 % 2 ^ (a.2 + 1) = 0)
def frM (l : List Bl) (i : Nat) : Bool := l.any fun b => decide (b.1 ≤ i) && decide (i < b.1 + 2 ^ b.2)
theorem frM_iff {l : List Bl} {i : Nat} : frM l i = true ↔ Cov (· ∈ l) i := by
  unfold frM Cov InB
  rw [List.any_eq_true]
  simp
theorem asc_dj {l : List Bl} (h : AscB l) {a b : Bl} (ha : a ∈ l) (hb : b ∈ l) (hne : a ≠ b) : a.1 + 2 ^ a.2 ≤ b.1 ∨ b.1 + 2 ^ b.2 ≤ a.1 := by
  obtain ⟨i, hi, rfl⟩ := List.getElem_of_mem ha
  obtain ⟨j, hj, rfl⟩ := List.getElem_of_mem hb
  have hp := List.pairwise_iff_getElem.1 h
  rcases Nat.lt_trichotomy i j with h1 | h1 | h1
  · exact .inl (hp i j hi hj h1)
  · subst h1; exact absurd rfl hne
  · exact .inr (hp j i hj hi h1)
theorem Vn.bag {N : Nat} {l : List Bl} (h : Vn N l) : Bag N (· ∈ l) := ⟨h.ok, fun a b ha hb hne => asc_dj h.asc ha hb hne, fun a b ha hb => h.nb a ha b hb⟩
theorem sorted_eq : ∀ l m : List Bl, l.Pairwise (fun a b => a.1 < b.1) → m.Pairwise (fun a b => a.1 < b.1) → (∀ b, b ∈ l ↔ b ∈ m) → l = m
  | l, m, hl, hm, h => by
    have nd : ∀ l : List Bl, l.Pairwise (fun a b => a.1 < b.1) → l.Nodup := fun l hl => hl.imp (fun {a b} h e => by rw [e] at h; exact Nat.lt_irrefl _ h)
    exact perm_sorted l m ((List.perm_ext_iff_of_nodup (nd l hl) (nd m hm)).2 h) (hl.imp (fun h => Nat.le_of_lt h)) hm
/-- a valid zone is what its free frames say -/
theorem Vn.bld {N : Nat} {l : List Bl} (h : Vn N l) : bld N (frM l) = l :=
  sorted_eq _ _ (asc_lt (bldG_asc N 0).2) (asc_lt h.asc) (fun b => bag_bld h.bag (fun i => frM_iff) b)
theorem bld_val {N : Nat} {S : Bl → Prop} {f : Nat → Bool} (hN : N ≤ 256) (h : Bag N S) (hf : ∀ i, f i = true ↔ Cov S i) : Vn N (Go.Proofs.Ytacfipmigkbncaa.bld N f) := by
  have hm := fun b => bag_bld h hf b
  exact ⟨hN, fun b hb => h.ok b ((hm b).1 hb), (bldG_asc N 0).2, fun a ha b hb => h.nb a b ((hm a).1 ha) ((hm b).1 hb)⟩
theorem bld_fr {N : Nat} {S : Bl → Prop} {f : Nat → Bool} (h : Bag N S) (hf : ∀ i, f i = true ↔ Cov S i) (i : Nat) : frM (Go.Proofs.Ytacfipmigkbncaa.bld N f) i = f i := by
  have e : frM (Go.Proofs.Ytacfipmigkbncaa.bld N f) i = true ↔ f i = true := by
    rw [frM_iff, hf]
    unfold Cov
    constructor
    · rintro ⟨b, hb, hi⟩; exact ⟨b, (bag_bld h hf b).1 hb, hi⟩
    · rintro ⟨b, hb, hi⟩; exact ⟨b, (bag_bld h hf b).2 hb, hi⟩
  cases h1 : frM (Go.Proofs.Ytacfipmigkbncaa.bld N f) i <;> cases h2 : f i <;> simp_all
theorem Vn.bls {N : Nat} {l : List Bl} (h : Vn N l) : Bls l := ⟨asc_nd h.asc, fun b hb => by have := h.ok b hb; have := h.n; have := two_pos b.2; unfold OkB at *; exact ⟨by omega, by omega⟩⟩
theorem Vn.SL {N : Nat} {l : List Bl} (h : Vn N l) (b : Bl) : SL (shv l) b ↔ b ∈ l := by
  unfold Go.Proofs.Ytacfipmigkbncaa.SL
  rw [shv_mem]
  constructor
  · rintro ⟨_, h2⟩; exact h2
  · intro h2; exact ⟨(h.ok b h2).1, h2⟩
theorem Vn.sh {N : Nat} {l : List Bl} (h : Vn N l) : Sh (shv l) := by
  have := shv_ok l h.bls l.length (Nat.le_refl _)
  rwa [List.take_length] at this
theorem Vn.len {N : Nat} {l : List Bl} (h : Vn N l) : l.length ≤ 256 := by
  have hm : (l.map (·.1)).length ≤ 256 := asc_len _ 256 (by rw [Asc, List.pairwise_map]; exact asc_lt h.asc) (fun x hx => by
    obtain ⟨b, hb, rfl⟩ := List.mem_map.1 hx
    exact (h.bls.rng b hb).1)
  simpa using hm

/-- numbers of a valid zone are natural numbers -/
def toI (b : Bl) : Bi := ((b.1 : Int), (b.2 : Int))
theorem toI_enc (l : List Bl) : (l.map toI).map encBk = l.map encN := by rw [List.map_map]; rfl
theorem pow_nat (k : Nat) : (2 : Int) ^ k = ((2 ^ k : Nat) : Int) := by simp
theorem zi_vn {n : Int} {l : List Bi} (h : Zi n l) : ∃ (N : Nat) (m : List Bl), n = N ∧ l = m.map toI ∧ Vn N m := by
  obtain ⟨N, rfl⟩ := Int.eq_ofNat_of_zero_le h.n0
  have hone : ∀ b ∈ l, (0 ≤ b.2 ∧ b.2 ≤ 6) ∧ (0 ≤ b.1 ∧ b.1 ≤ (N : Int) - 2 ^ b.2.toNat) ∧ b.1 % 2 ^ b.2.toNat = 0 := by
    intro b hb
    obtain ⟨i, hi, rfl⟩ := List.getElem_of_mem hb
    exact oneB_zero (h.pre.one i hi hi)
  have e : l = (l.map fun b => (b.1.toNat, b.2.toNat)).map toI := by
    rw [List.map_map]
    have : ∀ b ∈ l, (toI ∘ fun b : Bi => (b.1.toNat, b.2.toNat)) b = id b := by
      intro b hb
      obtain ⟨⟨h1, h2⟩, ⟨h3, h4⟩, h5⟩ := hone b hb
      simp only [Function.comp, toI, id]
      exact Prod.ext (by simp; omega) (by simp; omega)
    rw [List.map_congr_left this, List.map_id]
  generalize hm : (l.map fun b => (b.1.toNat, b.2.toNat)) = m at e
  clear hm
  subst e
  have hok : ∀ b ∈ m, OkB N b := by
    intro b hb
    obtain ⟨⟨h1, h2⟩, ⟨h3, h4⟩, h5⟩ := hone (toI b) (List.mem_map_of_mem hb)
    simp only [toI, Int.toNat_natCast] at h1 h2 h3 h4 h5
    have hp := pow_nat b.2
    rw [hp] at h4 h5
    exact ⟨by omega, by omega, by exact_mod_cast h5⟩
  have hn := h.n1
  refine ⟨N, m, rfl, rfl, by omega, hok, ?_, ?_⟩
  · rw [AscB, List.pairwise_iff_getElem]
    intro i j hi hj hij
    have := h.pre.asc i j (by simpa using hj) hij (by simpa using hj)
    simp only [List.getElem_map, toI, Int.toNat_natCast] at this
    have hp := pow_nat (m[i]).2
    rw [hp] at this
    omega
  · have hasc : ∀ i j (hj : j < m.length) (hij : i < j), (m[i]).1 + 2 ^ (m[i]).2 ≤ (m[j]).1 := by
      intro i j hj hij
      have := h.pre.asc i j (by simpa using hj) hij (by simpa using hj)
      simp only [List.getElem_map, toI, Int.toNat_natCast] at this
      have hp := pow_nat (m[i]'(by omega)).2
      rw [hp] at this
      omega
    rintro a ha b hb ⟨g1, g2, g3, g4⟩
    obtain ⟨i, hi, rfl⟩ := List.getElem_of_mem ha
    obtain ⟨j, hj, rfl⟩ := List.getElem_of_mem hb
    have q1 := two_pos (m[i]).2
    have q2 := two_pos (m[j]).2
    have hij : j = i + 1 := by
      rcases Nat.lt_trichotomy j i with h1 | h1 | h1
      · have := hasc j i hi h1; omega
      · subst h1; omega
      · rcases Nat.lt_or_ge (i + 1) j with h2 | h2
        · have := hasc i (i + 1) (by omega) (by omega)
          have := hasc (i + 1) j hj h2
          have := two_pos (m[i + 1]'(by omega)).2
          omega
        · omega
    subst hij
    have := h.pre.nb i (by simpa using hj) (by simpa using hj)
    obtain ⟨_, h9⟩ := twoB_zero this
    apply h9
    simp only [List.getElem_map, toI, Int.toNat_natCast]
    have hp := pow_nat (m[i + 1]).2
    rw [hp]
    rw [g1] at g3 g4
    refine ⟨by omega, by omega, by omega, ?_⟩
    rw [Nat.pow_succ, Nat.mul_comm] at g4
    exact_mod_cast g4
end Go.Proofs.Ytacfipmigkbncaa

/- The plain law of zones: joining and dividing. -/
namespace Go.Proofs.Ytacfipmigkbncaa
set_option linter.unusedSimpArgs false
set_option linter.unusedVariables false

/-- a shelf, and a block that is not on it -/
structure Rest (N : Nat) (L : Shf) (a k : Nat) : Prop where
  sh : Sh L
  bag : Bag N (SL L)
  ok : OkB N (a, k)
  n : N ≤ 256
  ap : ∀ b, SL L b → b.1 + 2 ^ b.2 ≤ a ∨ a + 2 ^ k ≤ b.1
theorem Rest.notin {N : Nat} {L : Shf} {a k : Nat} (h : Rest N L a k) : ¬ SL L (a, k) := fun hs => by
  have := two_pos k
  rcases h.ap _ hs with h1 | h1 <;> dsimp only at h1 <;> omega
theorem SL_put {L : Shf} {b : Bl} (hb : b.2 ≤ 6) (c : Bl) : SL (put L b) c ↔ c = b ∨ SL L c := by
  unfold SL
  rw [put_mem]
  constructor
  · rintro ⟨h1, h2 | h2⟩
    · exact .inl h2
    · exact .inr ⟨h1, h2⟩
  · rintro (rfl | ⟨h1, h2⟩)
    · exact ⟨hb, .inl rfl⟩
    · exact ⟨h1, .inr h2⟩
theorem SL_del {L : Shf} (hL : Sh L) {b : Bl} (c : Bl) : SL (upd L b.2 ((L b.2).erase b.1)) c ↔ SL L c ∧ c ≠ b := by
  unfold SL upd
  obtain ⟨x, k⟩ := c
  obtain ⟨y, j⟩ := b
  dsimp only
  by_cases h : k = j
  · subst h
    rw [if_pos rfl, (asc_nodup (hL.asc k)).mem_erase_iff]
    constructor
    · rintro ⟨h1, h2, h3⟩; exact ⟨⟨h1, h3⟩, fun e => h2 (by injection e)⟩
    · rintro ⟨⟨h1, h2⟩, h3⟩; exact ⟨h1, fun e => h3 (by rw [e]), h2⟩
  · rw [if_neg h]
    constructor
    · rintro ⟨h1, h2⟩; exact ⟨⟨h1, h2⟩, fun e => h (by injection e)⟩
    · rintro ⟨⟨h1, h2⟩, h3⟩; exact ⟨h1, h2⟩
theorem Cov_put {L : Shf} {b : Bl} (hb : b.2 ≤ 6) (i : Nat) : Cov (SL (put L b)) i ↔ Cov (SL L) i ∨ InB b i := by
  unfold Cov
  constructor
  · rintro ⟨c, hc, hi⟩
    rcases (SL_put hb c).1 hc with rfl | hc
    · exact .inr hi
    · exact .inl ⟨c, hc, hi⟩
  · rintro (⟨c, hc, hi⟩ | hi)
    · exact ⟨c, (SL_put hb c).2 (.inr hc), hi⟩
    · exact ⟨b, (SL_put hb b).2 (.inl rfl), hi⟩
theorem bud_pr {a k : Nat} (h : a % 2 ^ k = 0) : (bud a k = a + 2 ^ k ∧ a % 2 ^ (k + 1) = 0 ∧ par a k = a) ∨ (bud a k + 2 ^ k = a ∧ a % 2 ^ (k + 1) ≠ 0 ∧ par a k = bud a k ∧ par a k % 2 ^ (k + 1) = 0) := by
  unfold bud par
  have hp := two_pos k
  by_cases h1 : a % 2 ^ (k + 1) = 0
  · left; simp [h1]
  · right
    rw [if_neg h1, if_neg h1]
    have h2 := pr_al a k
    rcases pr_half h with h3 | h3
    · rw [h3] at h2; exact absurd h2 h1
    · have e : a - 2 ^ k = pr a k := by omega
      rw [e]; exact ⟨h3, h1, rfl, h2⟩
/-- a block whose buddy is not free goes onto the shelf -/
theorem Rest.put {N : Nat} {L : Shf} {a k : Nat} (h : Rest N L a k) (hb : k < 6 → ¬ SL L (bud a k, k)) : Sh (put L (a, k)) ∧ Bag N (SL (put L (a, k))) := by
  have hk := h.ok.1
  have hp := two_pos k
  have hnot := h.notin
  refine ⟨?_, ?_, ?_, ?_⟩
  · exact h.sh.add (by have := h.ok.2.1; have := h.n; dsimp only at *; omega) (fun hm => hnot ⟨hk, hm⟩)
  · intro b hs
    rcases (SL_put hk b).1 hs with rfl | hs
    · exact h.ok
    · exact h.bag.ok b hs
  · intro x y hx hy hne
    rcases (SL_put hk x).1 hx with rfl | hx <;> rcases (SL_put hk y).1 hy with rfl | hy
    · exact absurd rfl hne
    · have := h.ap y hy; dsimp only; omega
    · exact h.ap x hx
    · exact h.bag.dj x y hx hy hne
  · rintro x y hx hy ⟨g1, g2, g3, g4⟩
    rcases (SL_put hk x).1 hx with rfl | hx <;> rcases (SL_put hk y).1 hy with rfl | hy
    · dsimp only at g3; omega
    · dsimp only at g1 g2 g3 g4
      apply hb g2
      have e : bud a k = a + 2 ^ k := by unfold bud; rw [if_pos g4]
      rw [e, ← g3]
      have : y = (y.1, k) := Prod.ext rfl g1.symm
      rw [← this]; exact hy
    · dsimp only at g1 g2 g3 g4
      rw [g1] at g2 g3 g4
      apply hb g2
      have e : bud a k = x.1 := by
        rcases bud_pr h.ok.2.2 with ⟨_, h2, _⟩ | ⟨h2, _⟩
        · exfalso
          dsimp only at h2
          rw [g3] at h2
          have := two_succ k
          have e1 := Nat.add_mod x.1 (2 ^ k) (2 ^ (k + 1))
          rw [g4, h2, Nat.zero_add, Nat.mod_mod, Nat.mod_eq_of_lt (by omega)] at e1
          omega
        · dsimp only at h2; omega
      rw [e]
      have : x = (x.1, k) := Prod.ext rfl g1
      rw [← this]; exact hx
    · exact h.bag.nb x y hx hy ⟨g1, g2, g3, g4⟩

theorem join_law {N : Nat} : ∀ (f : Nat) (L : Shf) (a k : Nat), 6 - k ≤ f → Rest N L a k → Sh (joinL L a k) ∧ Bag N (SL (joinL L a k)) ∧ ∀ i, Cov (SL (joinL L a k)) i ↔ Cov (SL L) i ∨ InB (a, k) i
  | f, L, a, k, hf, h => by
    have hk := h.ok.1
    dsimp only at hk
    by_cases hin : k < 6 ∧ bud a k ∈ L k
    · obtain ⟨h6, hm⟩ := hin
      rw [joinL_go h6 hm]
      have hp := two_pos k
      have h2 := two_succ k
      have hbS : SL L (bud a k, k) := ⟨hk, hm⟩
      have hbo := h.bag.ok _ hbS
      have hdel := SL_del h.sh (b := (bud a k, k))
      dsimp only at hdel
      obtain ⟨o1, o2, o3⟩ := h.ok
      obtain ⟨o4, o5, o6⟩ := hbo
      dsimp only at o1 o2 o3 o4 o5 o6
      have hR : Rest N (upd L k ((L k).erase (bud a k))) (par a k) (k + 1) := by
        refine ⟨h.sh.del k _, h.bag.sub (fun b hb => ((hdel b).1 hb).1), ⟨by dsimp only; omega, ?_, ?_⟩, h.n, fun b hb => ?_⟩
        · dsimp only
          rcases bud_pr o3 with ⟨e1, e2, e3⟩ | ⟨e1, e2, e3, e4⟩ <;> omega
        · dsimp only
          rcases bud_pr o3 with ⟨e1, e2, e3⟩ | ⟨e1, e2, e3, e4⟩
          · rw [e3]; exact e2
          · exact e4
        · obtain ⟨hb1, hb2⟩ := (hdel b).1 hb
          have a1 := h.ap b hb1
          have a2 := h.bag.dj b _ hb1 hbS hb2
          have hpb := two_pos b.2
          dsimp only at a2
          rcases bud_pr o3 with ⟨e1, e2, e3⟩ | ⟨e1, e2, e3, e4⟩ <;> omega
      match f, hf with
      | f + 1, hf =>
        obtain ⟨r1, r2, r3⟩ := join_law f _ _ _ (by omega) hR
        refine ⟨r1, r2, fun i => ?_⟩
        rw [r3]
        have hpar : InB (par a k, k + 1) i ↔ InB (a, k) i ∨ InB (bud a k, k) i := by
          unfold InB
          dsimp only
          rcases bud_pr o3 with ⟨e1, e2, e3⟩ | ⟨e1, e2, e3, e4⟩ <;> omega
        rw [hpar]
        unfold Cov
        constructor
        · rintro (⟨c, hc, hi⟩ | hi | hi)
          · exact .inl ⟨c, ((hdel c).1 hc).1, hi⟩
          · exact .inr hi
          · exact .inl ⟨_, hbS, hi⟩
        · rintro (⟨c, hc, hi⟩ | hi)
          · rcases Classical.em (c = (bud a k, k)) with e | e
            · subst e; exact .inr (.inr hi)
            · exact .inl ⟨c, (hdel c).2 ⟨hc, e⟩, hi⟩
          · exact .inr (.inl hi)
      | 0, hf => omega
    · have e : joinL L a k = put L (a, k) := by
        by_cases h6 : k < 6
        · exact joinL_no (fun hm => hin ⟨h6, hm⟩)
        · obtain rfl : k = 6 := by omega
          rfl
      rw [e]
      obtain ⟨r1, r2⟩ := h.put (fun h6 hs => hin ⟨h6, hs.2⟩)
      exact ⟨r1, r2, Cov_put hk⟩

/-- a block is divided until the wanted one is left -/
def splitT (w k : Nat) : Nat → Shf → Nat → Shf
  | 0, L, a => L
  | o + 1, L, a => if k ≤ o then (if a + 2 ^ o ≤ w then splitT w k o (put L (a, o)) (a + 2 ^ o) else splitT w k o (put L (a + 2 ^ o, o)) a) else L
theorem Rest.half {N : Nat} {L : Shf} {a o : Nat} (h : Rest N L a (o + 1)) : (Rest N (Go.Proofs.Ytacfipmigkbncaa.put L (a, o)) (a + 2 ^ o) o ∧ ∀ i, Cov (SL (Go.Proofs.Ytacfipmigkbncaa.put L (a, o))) i ↔ Cov (SL L) i ∨ InB (a, o) i) ∧
    (Rest N (Go.Proofs.Ytacfipmigkbncaa.put L (a + 2 ^ o, o)) a o ∧ ∀ i, Cov (SL (Go.Proofs.Ytacfipmigkbncaa.put L (a + 2 ^ o, o))) i ↔ Cov (SL L) i ∨ InB (a + 2 ^ o, o) i) := by
  have hp := two_pos o
  have h2 := two_succ o
  obtain ⟨o1, o2, o3⟩ := h.ok
  dsimp only at o1 o2 o3
  have hal := al_half o3
  have hal0 := al_down o3 (show o ≤ o + 1 by omega)
  have r1 : Rest N L a o := ⟨h.sh, h.bag, ⟨by dsimp only; omega, by dsimp only; omega, hal0⟩, h.n, fun b hb => by have := h.ap b hb; omega⟩
  have r2 : Rest N L (a + 2 ^ o) o := ⟨h.sh, h.bag, ⟨by dsimp only; omega, by dsimp only; omega, hal⟩, h.n, fun b hb => by have := h.ap b hb; omega⟩
  have no : ∀ c, SL L (c, o) → ¬ (a ≤ c ∧ c < a + 2 ^ (o + 1)) := fun c hc hh => by have := h.ap _ hc; dsimp only at this; omega
  have p1 := r1.put (fun h6 hs => by
    rcases bud_pr hal0 with ⟨e1, _⟩ | ⟨_, e2, _⟩
    · exact no _ hs (by omega)
    · exact e2 o3)
  have p2 := r2.put (fun h6 hs => by
    rcases bud_pr hal with ⟨_, e2, _⟩ | ⟨e1, _⟩
    · have e3 := Nat.add_mod a (2 ^ o) (2 ^ (o + 1))
      rw [o3, e2, Nat.zero_add, Nat.mod_mod, Nat.mod_eq_of_lt (by omega)] at e3
      omega
    · exact no _ hs (by omega))
  refine ⟨⟨⟨p1.1, p1.2, r2.ok, h.n, fun b hb => ?_⟩, Cov_put (by dsimp only; omega)⟩, ⟨p2.1, p2.2, r1.ok, h.n, fun b hb => ?_⟩, Cov_put (by dsimp only; omega)⟩
  · rcases (SL_put (by dsimp only; omega) b).1 hb with rfl | hb
    · left; exact Nat.le_refl _
    · exact r2.ap b hb
  · rcases (SL_put (by dsimp only; omega) b).1 hb with rfl | hb
    · right; exact Nat.le_refl _
    · exact r1.ap b hb
theorem split_law {N w k : Nat} (hw : w % 2 ^ k = 0) : ∀ (o : Nat) (L : Shf) (a : Nat), Rest N L a o → k ≤ o → a ≤ w → w + 2 ^ k ≤ a + 2 ^ o →
    Sh (splitT w k o L a) ∧ Bag N (SL (splitT w k o L a)) ∧ ∀ i, Cov (SL (splitT w k o L a)) i ↔ (Cov (SL L) i ∨ InB (a, o) i) ∧ ¬ InB (w, k) i
  | o, L, a, h, hk, h1, h2 => by
    have stop : k = o → Sh L ∧ Bag N (SL L) ∧ ∀ i, Cov (SL L) i ↔ (Cov (SL L) i ∨ InB (a, o) i) ∧ ¬ InB (w, k) i := by
      rintro rfl
      have e : w = a := by omega
      subst e
      refine ⟨h.sh, h.bag, fun i => ⟨fun hc => ⟨.inl hc, fun hi => ?_⟩, fun ⟨h3, h4⟩ => h3.resolve_right h4⟩⟩
      obtain ⟨c, hc, c1, c2⟩ := hc
      obtain ⟨i1, i2⟩ := hi
      dsimp only at i1 i2
      have := h.ap c hc
      omega
    cases o with
    | zero => exact stop (by omega)
    | succ o =>
      rw [splitT]
      by_cases hko : k ≤ o
      · rw [if_pos hko]
        have hp := two_pos o
        have hpk := two_pos k
        have hs := two_succ o
        obtain ⟨⟨q1, q2⟩, ⟨q3, q4⟩⟩ := h.half
        have hal := h.ok.2.2
        dsimp only at hal
        by_cases hh : a + 2 ^ o ≤ w
        · rw [if_pos hh]
          obtain ⟨r1, r2, r3⟩ := split_law hw o _ _ q1 hko hh (by omega)
          refine ⟨r1, r2, fun i => ?_⟩
          rw [r3, q2]
          have : InB (a, o + 1) i ↔ InB (a, o) i ∨ InB (a + 2 ^ o, o) i := by unfold InB; dsimp only; omega
          rw [this, or_assoc]
        · rw [if_neg hh]
          have hle : w + 2 ^ k ≤ a + 2 ^ o := (nest hw (al_down hal (show o ≤ o + 1 by omega)) hko (by omega) (by omega)).2
          obtain ⟨r1, r2, r3⟩ := split_law hw o _ _ q3 hko h1 hle
          refine ⟨r1, r2, fun i => ?_⟩
          rw [r3, q4]
          have : InB (a, o + 1) i ↔ InB (a + 2 ^ o, o) i ∨ InB (a, o) i := by unfold InB; dsimp only; omega
          rw [this, or_assoc]
      · rw [if_neg hko]
        exact stop (by omega)

def inb (a k i : Nat) : Bool := decide (a ≤ i) && decide (i < a + 2 ^ k)
theorem inb_iff {a k i : Nat} : inb a k i = true ↔ InB (a, k) i := by unfold inb InB; simp
/-- what is known of a zone that comes out -/
structure Res (N : Nat) (f : Nat → Bool) (L : Shf) : Prop where
  sh : Sh L
  perm : (bld N f).Perm (bagTo L 7)
  srt : (bld N f).Pairwise (fun a b => a.1 < b.1)
  vn : Vn N (bld N f)
  fr : ∀ i, frM (bld N f) i = f i
theorem res_of {N : Nat} {f : Nat → Bool} {L : Shf} (hn : N ≤ 256) (hs : Sh L) (hb : Bag N (SL L)) (hf : ∀ i, f i = true ↔ Cov (SL L) i) : Res N f L :=
  ⟨hs, (shelf_bld hs hb hf).1, (shelf_bld hs hb hf).2, bld_val hn hb hf, bld_fr hb hf⟩
theorem Vn.cov {N : Nat} {m : List Bl} (h : Vn N m) (i : Nat) : Cov (Go.Proofs.Ytacfipmigkbncaa.SL (shv m)) i ↔ frM m i = true := by
  rw [frM_iff]
  unfold Cov
  constructor <;> rintro ⟨b, hb, hi⟩
  · exact ⟨b, (h.SL b).1 hb, hi⟩
  · exact ⟨b, (h.SL b).2 hb, hi⟩
theorem free_law {N : Nat} {m : List Bl} (h : Vn N m) {a k : Nat} (ho : OkB N (a, k)) (hn : ∀ i, inb a k i = true → frM m i = false) : Res N (fun i => frM m i || inb a k i) (joinL (shv m) a k) := by
  have hb : Bag N (SL (shv m)) := h.bag.sub (fun b hb => (h.SL b).1 hb)
  have hR : Rest N (shv m) a k := by
    refine ⟨h.sh, hb, ho, h.n, fun b hs => ?_⟩
    have hbm := (h.SL b).1 hs
    rcases Nat.lt_or_ge a (b.1 + 2 ^ b.2) with h1 | h1
    · rcases Nat.lt_or_ge b.1 (a + 2 ^ k) with h2 | h2
      · exfalso
        have hp := two_pos b.2
        have hpk := two_pos k
        have hi : inb a k (max a b.1) = true := inb_iff.2 ⟨by dsimp only; omega, by dsimp only; omega⟩
        have := hn _ hi
        rw [(frM_iff (l := m)).2 ⟨b, hbm, by omega, by omega⟩] at this
        cases this
      · exact .inr h2
    · exact .inl h1
  obtain ⟨r1, r2, r3⟩ := join_law (6 - k) _ _ _ (Nat.le_refl _) hR
  refine res_of h.n r1 r2 (fun i => ?_)
  rw [r3, Bool.or_eq_true, inb_iff, h.cov]
theorem take_law {N : Nat} {m : List Bl} (h : Vn N m) {w k : Nat} (hw : w % 2 ^ k = 0) {b : Bl} (hb : b ∈ m) (h1 : b.1 ≤ w) (h2 : w + 2 ^ k ≤ b.1 + 2 ^ b.2) (hk : k ≤ b.2) :
    Res N (fun i => frM m i && !inb w k i) (splitT w k b.2 (upd (shv m) b.2 ((shv m b.2).erase b.1)) b.1) := by
  have hbag : Bag N (SL (shv m)) := h.bag.sub (fun b hb => (h.SL b).1 hb)
  have hdel := SL_del h.sh (b := b)
  have hR : Rest N (upd (shv m) b.2 ((shv m b.2).erase b.1)) b.1 b.2 := by
    refine ⟨h.sh.del _ _, hbag.sub (fun c hc => ((hdel c).1 hc).1), h.ok b hb, h.n, fun c hc => ?_⟩
    obtain ⟨c1, c2⟩ := (hdel c).1 hc
    exact asc_dj h.asc ((h.SL c).1 c1) hb c2
  obtain ⟨r1, r2, r3⟩ := split_law hw b.2 _ _ hR hk h1 h2
  refine res_of h.n r1 r2 (fun i => ?_)
  rw [r3, Bool.and_eq_true, Bool.not_eq_true', ← Bool.not_eq_true, inb_iff, ← h.cov]
  have e : Cov (SL (upd (shv m) b.2 ((shv m b.2).erase b.1))) i ∨ InB (b.1, b.2) i ↔ Cov (SL (shv m)) i := by
    unfold Cov
    constructor
    · rintro (⟨c, hc, hi⟩ | hi)
      · exact ⟨c, ((hdel c).1 hc).1, hi⟩
      · exact ⟨b, (h.SL b).2 hb, hi⟩
    · rintro ⟨c, hc, hi⟩
      rcases Classical.em (c = b) with e | e
      · subst e; exact .inr hi
      · exact .inl ⟨c, (hdel c).2 ⟨hc, e⟩, hi⟩
  rw [e]
/-- frames that are free together lie in one block -/
theorem Vn.block {N : Nat} {m : List Bl} (h : Vn N m) {w k : Nat} (hk : k ≤ 6) (hw : w % 2 ^ k = 0) (hall : ∀ i, inb w k i = true → frM m i = true) : ∃ b, b ∈ m ∧ b.1 ≤ w ∧ w + 2 ^ k ≤ b.1 + 2 ^ b.2 ∧ k ≤ b.2 := by
  obtain ⟨b, hb, h1, h2, h3⟩ := h.bag.cover k w hk hw (fun i i1 i2 => frM_iff.1 (hall i (inb_iff.2 ⟨i1, i2⟩)))
  exact ⟨b, hb, h1, h2, h3⟩
end Go.Proofs.Ytacfipmigkbncaa
