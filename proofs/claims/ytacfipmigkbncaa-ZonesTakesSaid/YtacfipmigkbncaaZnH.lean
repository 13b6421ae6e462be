/- Two zones and what was given out of them: plain. -/
import Derived.Test.YtacfipmigkbncaaZnG
namespace Go.Proofs.Ytacfipmigkbncaa
set_option linter.unusedSimpArgs false
set_option linter.unusedVariables false

theorem best_take {N : Nat} {m : List Bl} (hv : Vz N m) {q : Nat} (hq : q ≤ 6) {c : Bl} (hb : Best m q c) : Vz N (bld N (frA m c.1 q)) ∧ OkB N (c.1, q) ∧ Allfr m c.1 q ∧ ∀ i, frM (bld N (frA m c.1 q)) i = frA m c.1 q i := by
  obtain ⟨o1, o2, o3⟩ := hv.v.ok c hb.mem
  have hle := Nat.pow_le_pow_right (n := 2) (by decide) hb.le
  have hal := al_down o3 hb.le
  have hres : Res N (frA m c.1 q) _ := take_law hv.v hal hb.mem (Nat.le_refl _) (by omega) hb.le
  refine ⟨vn_vz hres.vn, ⟨hq, by dsimp only; omega, hal⟩, fun i hi => ?_, hres.fr⟩
  obtain ⟨i1, i2⟩ := inb_iff.1 hi
  dsimp only at i1 i2
  exact frM_iff.2 ⟨c, hb.mem, by omega, by omega⟩
theorem blk_free {N : Nat} {m : List Bl} (hv : Vz N m) {w k : Nat} (ho : OkB N (w, k)) (hn : Nofr m w k) : Vz N (bld N (frF m w k)) ∧ ∀ i, frM (bld N (frF m w k)) i = frF m w k i := by
  have hres : Res N (frF m w k) _ := free_law hv.v ho hn
  exact ⟨vn_vz hres.vn, hres.fr⟩
def Apt (c d : Bl) : Prop := c.1 + 2 ^ c.2 ≤ d.1 ∨ d.1 + 2 ^ d.2 ≤ c.1
theorem nofr_mono {m m' : List Bl} {w k : Nat} (h : Nofr m w k) (hm : ∀ i, frM m' i = true → frM m i = true) : Nofr m' w k := by
  intro i hi
  rw [← Bool.not_eq_true]
  intro h2
  have := h i hi
  rw [hm i h2] at this; cases this
theorem apt_of {m : List Bl} {w k w' k' : Nat} (h1 : Allfr m w k) (h2 : Nofr m w' k') : Apt (w, k) (w', k') := by
  unfold Apt
  dsimp only
  rcases Nat.lt_or_ge w' (w + 2 ^ k) with g1 | g1
  · rcases Nat.lt_or_ge w (w' + 2 ^ k') with g2 | g2
    · exfalso
      have p1 := two_pos k
      have p2 := two_pos k'
      have e1 := h1 (max w w') (inb_iff.2 ⟨by dsimp only; omega, by dsimp only; omega⟩)
      have e2 := h2 (max w w') (inb_iff.2 ⟨by dsimp only; omega, by dsimp only; omega⟩)
      rw [e1] at e2; cases e2
    · exact .inr g2
  · exact .inl g1
theorem nofr_fr {m m' : List Bl} {w k w' k' : Nat} (hf : ∀ i, frM m' i = frF m w k i) (h : Nofr m w' k') (ha : Apt (w, k) (w', k')) : Nofr m' w' k' := by
  intro i hi
  rw [hf i]
  unfold frF
  rw [h i hi, Bool.false_or, ← Bool.not_eq_true]
  intro h2
  obtain ⟨a1, a2⟩ := inb_iff.1 hi
  obtain ⟨a3, a4⟩ := inb_iff.1 h2
  unfold Apt at ha
  dsimp only at a1 a2 a3 a4 ha
  omega
/-- a block of one zone or of the other one, given out -/
def InZ (a b : Zn) (c : Bl) : Prop := (c.1 < a.1 ∧ OkB a.1 c ∧ Nofr a.2 c.1 c.2) ∨ (a.1 ≤ c.1 ∧ OkB b.1 (c.1 - a.1, c.2) ∧ Nofr b.2 (c.1 - a.1) c.2)
structure Gz (a b : Zn) (out : List Bl) : Prop where
  v : Vzz a b
  ok : ∀ c ∈ out, InZ a b c
  dj : out.Pairwise Apt
theorem Gz.new {N M : Nat} (h1 : 1 ≤ N) (h2 : N + M ≤ 256) : Gz (newZ N) (newZ M) [] := ⟨vzz_new h1 h2, by simp, by simp⟩
theorem al1_some {a b : Zn} {q : Nat} {r : Zn × Zn × Nat} (h : al1 a b q = some r) : ∃ c, Best a.2 q c ∧ r = ((a.1, bld a.1 (frA a.2 c.1 q)), b, c.1) := by
  unfold al1 at h
  cases hb : bestOf a.2 q with
  | none => rw [hb] at h; cases h
  | some c => rw [hb] at h; injection h with h; exact ⟨c, bestOf_some hb, h.symm⟩
theorem al2_some {a b : Zn} {q : Nat} {r : Zn × Zn × Nat} (h : al2 a b q = some r) : ∃ c, Best b.2 q c ∧ r = (a, (b.1, bld b.1 (frA b.2 c.1 q)), a.1 + c.1) := by
  unfold al2 at h
  cases hb : bestOf b.2 q with
  | none => rw [hb] at h; cases h
  | some c => rw [hb] at h; injection h with h; exact ⟨c, bestOf_some hb, h.symm⟩
theorem alc_some {a b : Zn} {q : Nat} {p : Int} {r : Zn × Zn × Nat} (h : alcZ a b q p = some r) : al1 a b q = some r ∨ al2 a b q = some r := by
  unfold alcZ at h
  split at h
  · cases h1 : al1 a b q with
    | some x => rw [h1] at h; exact .inl (by simpa using h)
    | none => rw [h1] at h; exact .inr (by simpa using h)
  · cases h1 : al2 a b q with
    | some x => rw [h1] at h; exact .inr (by simpa using h)
    | none => rw [h1] at h; exact .inl (by simpa using h)
/-- what a block given out is -/
structure Alc (a b : Zn) (q : Nat) (r : Zn × Zn × Nat) : Prop where
  v : Vzz r.1 r.2.1
  ea : r.1.1 = a.1
  eb : r.2.1.1 = b.1
  cs : (r.2.2 < a.1 ∧ OkB a.1 (r.2.2, q) ∧ Allfr a.2 r.2.2 q ∧ (∀ i, frM r.1.2 i = frA a.2 r.2.2 q i) ∧ r.1.2 = bld a.1 (frA a.2 r.2.2 q) ∧ r.2.1 = b) ∨
    (a.1 ≤ r.2.2 ∧ OkB b.1 (r.2.2 - a.1, q) ∧ Allfr b.2 (r.2.2 - a.1) q ∧ (∀ i, frM r.2.1.2 i = frA b.2 (r.2.2 - a.1) q i) ∧ r.2.1.2 = bld b.1 (frA b.2 (r.2.2 - a.1) q) ∧ r.1 = a)
theorem alc_law {a b : Zn} (hv : Vzz a b) {q : Nat} (hq : q ≤ 6) {p : Int} {r : Zn × Zn × Nat} (h : alcZ a b q p = some r) : Alc a b q r := by
  rcases alc_some h with h | h
  · obtain ⟨c, hb, rfl⟩ := al1_some h
    obtain ⟨g1, g2, g3, g4⟩ := best_take hv.fa hq hb
    have := two_pos q
    have h3 := g2.2.1
    exact ⟨⟨g1, hv.fb, hv.pos, hv.le⟩, rfl, rfl, .inl ⟨by dsimp only at h3 ⊢; omega, g2, g3, g4, rfl, rfl⟩⟩
  · obtain ⟨c, hb, rfl⟩ := al2_some h
    obtain ⟨g1, g2, g3, g4⟩ := best_take hv.fb hq hb
    have e : a.1 + c.1 - a.1 = c.1 := by omega
    refine ⟨⟨hv.fa, g1, hv.pos, hv.le⟩, rfl, rfl, .inr ⟨Nat.le_add_right _ _, ?_⟩⟩
    dsimp only
    rw [e]
    exact ⟨g2, g3, g4, rfl, rfl⟩
theorem frA_le {m : List Bl} {w k i : Nat} (h : frA m w k i = true) : frM m i = true := by
  unfold frA at h; simp at h; exact h.1
theorem frA_no {m m' : List Bl} {w k : Nat} (h : ∀ i, frM m' i = frA m w k i) : Nofr m' w k := by
  intro i hi; rw [h i]; unfold frA; rw [hi]; simp
theorem Gz.alloc {a b : Zn} {out : List Bl} (h : Gz a b out) {q : Nat} (hq : q ≤ 6) {p : Int} {r : Zn × Zn × Nat} (hr : alcZ a b q p = some r) : Gz r.1 r.2.1 (out ++ [(r.2.2, q)]) := by
  obtain ⟨v, ea, eb, cs⟩ := alc_law h.v hq hr
  have hp := two_pos q
  rcases cs with ⟨c1, c2, c3, c4, _, c5⟩ | ⟨c1, c2, c3, c4, _, c5⟩
  · have h3 := c2.2.1
    dsimp only at h3
    refine ⟨v, fun d hd => ?_, ?_⟩
    · rcases List.mem_append.1 hd with hd | hd
      · rcases h.ok d hd with ⟨d1, d2, d3⟩ | ⟨d1, d2, d3⟩
        · exact .inl ⟨by omega, ea ▸ d2, nofr_mono d3 (fun i hi => frA_le (c4 i ▸ hi))⟩
        · refine .inr ⟨by omega, ?_, ?_⟩ <;> rw [ea, c5] <;> assumption
      · simp at hd; subst hd
        exact .inl ⟨by dsimp only; omega, ea ▸ c2, frA_no c4⟩
    · refine List.pairwise_append.2 ⟨h.dj, by simp, fun d hd e he => ?_⟩
      simp at he; subst he
      rcases h.ok d hd with ⟨d1, d2, d3⟩ | ⟨d1, d2, d3⟩
      · have := apt_of c3 d3
        unfold Apt at this ⊢; exact this.symm
      · unfold Apt; dsimp only; omega
  · have h3 := c2.2.1
    dsimp only at h3
    refine ⟨v, fun d hd => ?_, ?_⟩
    · rcases List.mem_append.1 hd with hd | hd
      · rcases h.ok d hd with ⟨d1, d2, d3⟩ | ⟨d1, d2, d3⟩
        · refine .inl ⟨by omega, ?_, ?_⟩ <;> rw [c5] <;> assumption
        · refine .inr ⟨by omega, ?_, ?_⟩
          · rw [ea, eb]; exact d2
          · rw [ea]; exact nofr_mono d3 (fun i hi => frA_le (c4 i ▸ hi))
      · simp at hd; subst hd
        refine .inr ⟨by dsimp only; omega, ?_, ?_⟩
        · dsimp only; rw [ea, eb]; exact c2
        · dsimp only; rw [ea]; exact frA_no c4
    · refine List.pairwise_append.2 ⟨h.dj, by simp, fun d hd e he => ?_⟩
      simp at he; subst he
      rcases h.ok d hd with ⟨d1, d2, d3⟩ | ⟨d1, d2, d3⟩
      · unfold Apt; dsimp only
        have := d2.2.1
        omega
      · have := apt_of c3 d3
        unfold Apt at this ⊢; dsimp only at this ⊢; omega
/-- the zones with a block of theirs free again -/
def frE2 (a b : Zn) (w k : Nat) : Zn × Zn := if w < a.1 then ((a.1, bld a.1 (frF a.2 w k)), b) else (a, (b.1, bld b.1 (frF b.2 (w - a.1) k)))
theorem frE2_v {a b : Zn} (hv : Vzz a b) {c : Bl} (hc : InZ a b c) : Vzz (frE2 a b c.1 c.2).1 (frE2 a b c.1 c.2).2 ∧ (frE2 a b c.1 c.2).1.1 = a.1 := by
  unfold frE2
  rcases hc with ⟨c1, c2, c3⟩ | ⟨c1, c2, c3⟩
  · rw [if_pos c1]; exact ⟨⟨(blk_free hv.fa c2 c3).1, hv.fb, hv.pos, hv.le⟩, rfl⟩
  · rw [if_neg (by omega)]; exact ⟨⟨hv.fa, (blk_free hv.fb c2 c3).1, hv.pos, hv.le⟩, rfl⟩
theorem Gz.free {a b : Zn} {l1 l2 : List Bl} {c : Bl} (h : Gz a b (l1 ++ c :: l2)) : InZ a b c ∧ Gz (frE2 a b c.1 c.2).1 (frE2 a b c.1 c.2).2 (l1 ++ l2) := by
  have hc := h.ok c (by simp)
  have hsub : (l1 ++ l2).Sublist (l1 ++ c :: l2) := List.Sublist.append_left (List.sublist_cons_self c l2) l1
  refine ⟨hc, (frE2_v h.v hc).1, fun d hd => ?_, h.dj.sublist hsub⟩
  have hap : Apt c d := by
    obtain ⟨_, p2, p3⟩ := List.pairwise_append.1 h.dj
    rcases List.mem_append.1 hd with hd | hd
    · have := p3 d hd c (by simp)
      unfold Apt at this ⊢; exact this.symm
    · exact (List.pairwise_cons.1 p2).1 d hd
  have hdz := h.ok d (hsub.subset hd)
  unfold frE2
  rcases hc with ⟨c1, c2, c3⟩ | ⟨c1, c2, c3⟩
  · rw [if_pos c1]
    rcases hdz with ⟨d1, d2, d3⟩ | ⟨d1, d2, d3⟩
    · exact .inl ⟨d1, d2, nofr_fr (blk_free h.v.fa c2 c3).2 d3 hap⟩
    · exact .inr ⟨d1, d2, d3⟩
  · rw [if_neg (by omega)]
    rcases hdz with ⟨d1, d2, d3⟩ | ⟨d1, d2, d3⟩
    · exact .inl ⟨d1, d2, d3⟩
    · refine .inr ⟨d1, d2, nofr_fr (blk_free h.v.fb c2 c3).2 d3 ?_⟩
      unfold Apt at hap ⊢; dsimp only; omega
theorem Gz.at {a b : Zn} {out : List Bl} (h : Gz a b out) {k : Nat} (hk : k < out.length) : InZ a b out[k] ∧ Gz (frE2 a b out[k].1 out[k].2).1 (frE2 a b out[k].1 out[k].2).2 (out.take k ++ out.drop (k + 1)) := by
  have e : out = out.take k ++ out[k] :: out.drop (k + 1) := by
    rw [← List.drop_eq_getElem_cons hk, List.take_append_drop]
  have h2 : Gz a b (out.take k ++ out[k] :: out.drop (k + 1)) := e ▸ h
  exact h2.free
/-- freeing what was given out -/
theorem alc_back {a b : Zn} (hv : Vzz a b) {q : Nat} {r : Zn × Zn × Nat} (h : Alc a b q r) : InZ r.1 r.2.1 (r.2.2, q) ∧ frE2 r.1 r.2.1 r.2.2 q = (a, b) := by
  obtain ⟨⟨a', ma'⟩, ⟨b', mb'⟩, w⟩ := r
  obtain ⟨a1, ma⟩ := a
  obtain ⟨b1, mb⟩ := b
  obtain ⟨v, ea, eb, cs⟩ := h
  dsimp only at *
  subst ea eb
  have back : ∀ {N : Nat} {m m' : List Bl} {w k : Nat}, Vz N m → Allfr m w k → (∀ i, frM m' i = frA m w k i) → bld N (frF m' w k) = m := by
    intro N m m' w k hz ha hf
    have e : frF m' w k = frM m := by
      funext i
      unfold frF
      rw [hf i]
      unfold frA
      cases hi : inb w k i with
      | false => simp
      | true => rw [ha i hi]; rfl
    rw [e, hz.v.bld]
  rcases cs with ⟨c1, c2, c3, c4, _, c5⟩ | ⟨c1, c2, c3, c4, _, c5⟩
  · injection c5 with _ c5
    subst c5
    refine ⟨.inl ⟨c1, c2, frA_no c4⟩, ?_⟩
    unfold frE2
    rw [if_pos c1, back hv.fa c3 c4]
  · injection c5 with _ c5
    subst c5
    refine ⟨.inr ⟨c1, c2, frA_no c4⟩, ?_⟩
    unfold frE2
    rw [if_neg (by dsimp only; omega)]
    dsimp only
    rw [back hv.fb c3 c4]
end Go.Proofs.Ytacfipmigkbncaa
