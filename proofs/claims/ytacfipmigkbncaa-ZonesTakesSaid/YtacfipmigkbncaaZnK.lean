/- Two zones: how many frames are free, taking them one by one: plain. -/
import Derived.Test.YtacfipmigkbncaaZnI
namespace Go.Proofs.Ytacfipmigkbncaa
set_option linter.unusedSimpArgs false
set_option linter.unusedVariables false

theorem tot_cnt {N : Nat} {m : List Bl} (hv : Vz N m) : tot m = (List.range N).countP (frM m) := by
  unfold tot totTo
  rw [List.take_length, sum_cov m (fun b hb => (hv.v.ok b hb).2.1) (hv.v.asc.imp fun hx => .inl hx)]
  rfl
theorem tot_alc {N : Nat} {m m' : List Bl} {w q : Nat} (hv : Vz N m) (hv' : Vz N m') (ho : OkB N (w, q)) (ha : Allfr m w q) (hf : ∀ i, frM m' i = frA m w q i) : tot m' + 2 ^ q = tot m := by
  rw [tot_cnt hv, tot_cnt hv']
  have e : (List.range N).countP (frM m) = (List.range N).countP (fun i => frM m' i || inb w q i) := List.countP_congr fun i _ => by
    rw [hf i]
    unfold frA
    cases hi : inb w q i with
    | false => simp
    | true => simp [ha i hi]
  rw [e, cnt_or _ (fun i _ h => by
    obtain ⟨h1, h2⟩ := h
    rw [hf i] at h1
    unfold frA at h1
    rw [h2] at h1; simp at h1)]
  have : (List.range N).countP (fun i => inb w q i) = 2 ^ q := by
    have h3 := ho.2.1
    dsimp only at h3
    unfold inb
    rw [cnt_int _ _ (Nat.le_add_right _ _)]
    generalize 2 ^ q = s at h3
    omega
  have e2 : (List.range N).countP (inb w q) = 2 ^ q := this
  rw [e2]
theorem alc_tot {a b : Zn} (hv : Vzz a b) {q : Nat} {r : Zn × Zn × Nat} (h : Alc a b q r) : tot r.1.2 + tot r.2.1.2 + 2 ^ q = tot a.2 + tot b.2 := by
  obtain ⟨v, ea, eb, cs⟩ := h
  rcases cs with ⟨c1, c2, c3, c4, _, c5⟩ | ⟨c1, c2, c3, c4, _, c5⟩
  · have := tot_alc hv.fa (ea ▸ v.fa) c2 c3 c4
    rw [c5]; omega
  · have := tot_alc hv.fb (eb ▸ v.fb) c2 c3 c4
    rw [c5]; omega
theorem alc_lt {a b : Zn} {q : Nat} {r : Zn × Zn × Nat} (h : Alc a b q r) : r.2.2 + 2 ^ q ≤ a.1 + b.1 ∧ ∀ i, inb r.2.2 q i = true → ((i < a.1) ↔ (r.2.2 < a.1)) := by
  obtain ⟨v, ea, eb, cs⟩ := h
  rcases cs with ⟨c1, c2, _⟩ | ⟨c1, c2, _⟩
  · have h3 := c2.2.1
    dsimp only at h3
    refine ⟨by omega, fun i hi => ?_⟩
    obtain ⟨i1, i2⟩ := inb_iff.1 hi
    dsimp only at i1 i2
    omega
  · have h3 := c2.2.1
    dsimp only at h3
    refine ⟨by omega, fun i hi => ?_⟩
    obtain ⟨i1, i2⟩ := inb_iff.1 hi
    dsimp only at i1 i2
    omega
theorem alc_frZ {a b : Zn} {q : Nat} {r : Zn × Zn × Nat} (h : Alc a b q r) (i : Nat) : frZ r.1 r.2.1 i = (frZ a b i && !inb r.2.2 q i) := by
  have hl := (alc_lt h).2 i
  obtain ⟨v, ea, eb, cs⟩ := h
  unfold frZ
  rw [ea]
  rcases cs with ⟨c1, c2, c3, c4, _, c5⟩ | ⟨c1, c2, c3, c4, _, c5⟩
  · by_cases hi : i < a.1
    · rw [if_pos hi, if_pos hi, c4 i]; rfl
    · rw [if_neg hi, if_neg hi, c5]
      have : inb r.2.2 q i = false := by
        rw [← Bool.not_eq_true]; intro h; exact hi ((hl h).2 c1)
      rw [this]; simp
  · by_cases hi : i < a.1
    · rw [if_pos hi, if_pos hi, c5]
      have : inb r.2.2 q i = false := by
        rw [← Bool.not_eq_true]; intro h; have := (hl h).1 hi; omega
      rw [this]; simp
    · rw [if_neg hi, if_neg hi, c4 (i - a.1)]
      unfold frA
      congr 2
      unfold inb
      rw [Bool.eq_iff_iff]
      simp only [Bool.and_eq_true, decide_eq_true_eq]
      omega
theorem alc_was {a b : Zn} {q : Nat} {r : Zn × Zn × Nat} (h : Alc a b q r) {i : Nat} (hi : inb r.2.2 q i = true) : frZ a b i = true ∧ frZ r.1 r.2.1 i = false := by
  refine ⟨?_, by rw [alc_frZ h i, hi]; simp⟩
  have hl := (alc_lt h).2 i hi
  obtain ⟨i1, i2⟩ := inb_iff.1 hi
  dsimp only at i1 i2
  obtain ⟨v, ea, eb, cs⟩ := h
  unfold frZ
  rcases cs with ⟨c1, c2, c3, c4, _, c5⟩ | ⟨c1, c2, c3, c4, _, c5⟩
  · rw [if_pos (hl.2 c1)]; exact c3 i hi
  · rw [if_neg (fun h => by have := hl.1 h; omega)]
    exact c3 _ (inb_iff.2 ⟨by dsimp only; omega, by dsimp only; omega⟩)
theorem alc_none {a b : Zn} {q : Nat} {p : Int} (h : alcZ a b q p = none) : bestOf a.2 q = none ∧ bestOf b.2 q = none := by
  unfold alcZ al1 al2 at h
  cases h1 : bestOf a.2 q with
  | none =>
    cases h2 : bestOf b.2 q with
    | none => exact ⟨rfl, rfl⟩
    | some d => rw [h1, h2] at h; split at h <;> simp at h
  | some c => rw [h1] at h; split at h <;> simp at h
theorem tot_nil {m : List Bl} (h : bestOf m 0 = none) : tot m = 0 := by
  have := bestOf_none h
  cases m with
  | nil => rfl
  | cons c m => have := this c (by simp); omega
theorem alc0_none {a b : Zn} {p : Int} (h : alcZ a b 0 p = none) : tot a.2 + tot b.2 = 0 := by
  obtain ⟨h1, h2⟩ := alc_none h
  rw [tot_nil h1, tot_nil h2]
def tkG (p : Int) : Nat → Zn → Zn → List Nat → Zn × Zn × List Nat
  | 0, a, b, l => (a, b, l)
  | n + 1, a, b, l => match alcZ a b 0 p with
    | none => (a, b, l)
    | some r => tkG p n r.1 r.2.1 (l ++ [r.2.2])
theorem tkG_law (p : Int) : ∀ (n : Nat) {a b : Zn} (l0 : List Nat), Vzz a b → n ≤ tot a.2 + tot b.2 →
    Vzz (tkG p n a b l0).1 (tkG p n a b l0).2.1 ∧ (tkG p n a b l0).1.1 = a.1 ∧ (tkG p n a b l0).2.1.1 = b.1 ∧ tot (tkG p n a b l0).1.2 + tot (tkG p n a b l0).2.1.2 + n = tot a.2 + tot b.2 ∧
    ∃ l, (tkG p n a b l0).2.2 = l0 ++ l ∧ l.length = n ∧ l.Nodup ∧ ∀ f ∈ l, f < a.1 + b.1 ∧ frZ a b f = true
  | 0, a, b, l0, hv, h => ⟨hv, rfl, rfl, rfl, [], by simp [tkG], rfl, by simp, by simp⟩
  | n + 1, a, b, l0, hv, h => by
    rw [tkG]
    cases hr : alcZ a b 0 p with
    | none => have := alc0_none hr; omega
    | some r =>
      have ha := alc_law hv (by omega) hr
      have ht := alc_tot hv ha
      have hlt := (alc_lt ha).1
      obtain ⟨g1, g2, g3, g4, l, g5, g6, g7, g8⟩ := tkG_law p n (l0 ++ [r.2.2]) ha.v (by omega)
      dsimp only
      refine ⟨g1, by rw [g2, ha.ea], by rw [g3, ha.eb], by omega, r.2.2 :: l, by rw [g5]; simp, by simp [g6], ?_, ?_⟩
      · refine List.nodup_cons.2 ⟨fun hm => ?_, g7⟩
        have h1 := (g8 _ hm).2
        have h2 := (alc_was ha (i := r.2.2) (inb_iff.2 ⟨Nat.le_refl _, by dsimp only; omega⟩)).2
        rw [h1] at h2; cases h2
      · intro f hf
        rcases List.mem_cons.1 hf with rfl | hf
        · exact ⟨by omega, (alc_was ha (inb_iff.2 ⟨Nat.le_refl _, by dsimp only; omega⟩)).1⟩
        · obtain ⟨h1, h2⟩ := g8 f hf
          rw [ha.ea, ha.eb] at h1
          rw [alc_frZ ha f] at h2
          simp at h2
          exact ⟨h1, h2.1⟩
end Go.Proofs.Ytacfipmigkbncaa
