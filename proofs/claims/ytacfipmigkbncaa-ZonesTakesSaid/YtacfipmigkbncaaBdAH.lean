import Derived.Test.YtacfipmigkbncaaBdAD
import Derived.Test.YtacfipmigkbncaaBdAF

/- headgatelaw09.script, by the engine. -/
namespace Go.Proofs.Ytacfipmigkbncaa
open Go.RowKit
set_option maxRecDepth 100000
set_option linter.unusedSimpArgs false
set_option linter.unusedVariables false

def ModS : Spec := { rel := fun args ins res outs => ∃ n k : Int, 1 ≤ k ∧ k ≤ 9223372036854775807 ∧ args = [iv n, iv k] ∧ ins = [] ∧ res = iv (n % k) ∧ outs = [] }
theorem Mod_at (n k : Int) (h1 : 1 ≤ k) (h2 : k ≤ 9223372036854775807) : ModS.rel [iv n, iv k] [] (iv (n % k)) [] := ⟨n, k, h1, h2, rfl, rfl, rfl, rfl⟩
theorem Mod_ok : Ok Try.prog 35 ModS := by
  refine ok_struct ⟨_, Try.func35, rfl, rfl⟩ ?_
  rintro args ins res outs ⟨n, k, h1, h2, rfl, rfl, rfl, rfl⟩
  exact ⟨rfl, rfl, rfl, rfl, fun w => (Mod_any n k w h1 h2).mono fun e w' ⟨h1, h2⟩ => ⟨h1, h2 ▸ Below.refl _ _⟩⟩
def scrG (N : Nat) : List Int → List Bl → List Bl → List Bl × List Bl
  | [], m, out => (m, out)
  | x :: r, m, out => match bestOf m (x % 5).toNat with
    | none => scrG N r m out
    | some b => scrG N r (bld N (frA m b.1 (x % 5).toNat)) (out ++ [(b.1, (x % 5).toNat)])
def scr (N : Nat) (nums : List Int) : List Bl × List Bl := scrG N (nums.take 30) (bld N (fl N)) []
theorem mst_none {m : List Bl} {k : Nat} (h : ∀ c ∈ m, c.2 < k) : mst m k = 0 := by
  unfold mst mstTo
  rw [List.take_length, List.sum_eq_zero_iff_forall_eq_nat]
  intro x hx
  obtain ⟨c, hc, rfl⟩ := List.mem_map.1 hx
  exact Nat.div_eq_of_lt (Nat.pow_lt_pow_right (by decide) (h c hc))
theorem bldG_cov {N : Nat} {f : Nat → Bool} : ∀ (n a : Nat), N ≤ a + n → ∀ i, (∃ b ∈ bldG N f n a, InB b i) ↔ a ≤ i ∧ i < N ∧ f i = true
  | 0, a, h, i => by simp [bldG]; omega
  | n + 1, a, h, i => by
    rw [bldG]
    by_cases hlt : a < N
    · rw [if_pos hlt]
      cases hf : f a with
      | true =>
        obtain ⟨b1, b2, b3⟩ := fitB_iff.1 (bst_fit (fit0 hlt hf) 7)
        generalize bst N f a 7 = o at *
        have ho := two_pos o
        have ih := bldG_cov (N := N) (f := f) n (a + 2 ^ o) (by omega) i
        rw [if_pos rfl]
        constructor
        · rintro ⟨b, hb, hi⟩
          rcases List.mem_cons.1 hb with rfl | hb
          · obtain ⟨i1, i2⟩ := hi
            dsimp only at i1 i2
            exact ⟨i1, by omega, b3 i i1 i2⟩
          · have := ih.1 ⟨b, hb, hi⟩
            exact ⟨by omega, this.2⟩
        · rintro ⟨i1, i2, i3⟩
          rcases Nat.lt_or_ge i (a + 2 ^ o) with hh | hh
          · exact ⟨(a, o), by simp, i1, hh⟩
          · obtain ⟨b, hb, hi⟩ := ih.2 ⟨hh, i2, i3⟩
            exact ⟨b, by simp [hb], hi⟩
      | false =>
        rw [if_neg (by simp), bldG_cov n (a + 1) (by omega) i]
        constructor
        · rintro ⟨i1, i2⟩; exact ⟨by omega, i2⟩
        · rintro ⟨i1, i2, i3⟩
          refine ⟨?_, i2, i3⟩
          rcases Nat.lt_or_ge a i with hh | hh
          · exact hh
          · have : i = a := by omega
            rw [this, hf] at i3; cases i3
    · rw [if_neg hlt]; simp; omega
theorem gv0 {N : Nat} (hN : N ≤ 256) : Gv N (bld N (fl N)) [] := by
  have hf : ∀ i, fl N i = true → i < N := fun i h => by simpa [fl] using h
  have hmem := fun b => bldG_mem (f := fl N) hf N 0 (by omega) (str_zero N (fl N)) b
  have hv : Vn N (bld N (fl N)) := by
    refine ⟨hN, fun b hb => ((hmem b).1 hb).2.1, (bldG_asc N 0).2, ?_⟩
    rintro a ha b hb ⟨g1, g2, g3, g4⟩
    obtain ⟨_, ⟨o1, o2, o3⟩, _, c3⟩ := (hmem a).1 ha
    obtain ⟨_, ⟨p1, p2, p3⟩, _, _⟩ := (hmem b).1 hb
    rcases c3 with c3 | c3
    · omega
    · apply c3
      intro i i1 i2
      have hs := two_succ a.2
      have hpr : pr a.1 a.2 ≤ a.1 := (pr_in o3).1
      rw [← g1] at p2
      simp [fl]; omega
  refine ⟨vn_vz hv, by simp, by simp, by simp, fun i hi => ?_⟩
  simp only [List.any_nil, Bool.not_false]
  rw [frM_iff]
  obtain ⟨b, hb, h1⟩ := (bldG_cov (N := N) (f := fl N) N 0 (by omega) i).2 ⟨Nat.zero_le _, hi, by simp [fl, hi]⟩
  exact ⟨b, hb, h1⟩
def scriptS : Spec := { al := true, rel := fun args ins res outs => ∃ (n : Int) (nums : List Int) (N : Nat), n % 257 = N ∧ args = [iv n, dI nums] ∧ ins = [] ∧ res = .tup [.agg [iv N, dN (scr N nums).1], .row 0 2 0 (scr N nums).2.length, bv true] ∧ outs = [.rows 87 2 ((scr N nums).2.map encN)] }
abbrev NMstS : Spec := MostS
end Go.Proofs.Ytacfipmigkbncaa

/- What a script gives out, freed again: plain. -/
namespace Go.Proofs.Ytacfipmigkbncaa
set_option linter.unusedSimpArgs false
set_option linter.unusedVariables false

theorem scrG_gv {N : Nat} : ∀ (l : List Int) (m out : List Bl), Gv N m out → Gv N (scrG N l m out).1 (scrG N l m out).2 ∧ (scrG N l m out).2.length ≤ out.length + l.length
  | [], m, out, h => ⟨h, Nat.le_refl _⟩
  | x :: r, m, out, h => by
    rw [scrG]
    cases hb : bestOf m (x % 5).toNat with
    | none =>
      have := scrG_gv r m out h
      exact ⟨this.1, by simp only [List.length_cons]; omega⟩
    | some b =>
      have h2 := (h.step (by omega) (bestOf_some hb)).1
      have := scrG_gv r _ _ h2
      simp only [List.length_append, List.length_cons, List.length_nil] at this
      exact ⟨this.1, by simp only [List.length_cons]; omega⟩
theorem scr_gv {N : Nat} (hN : N ≤ 256) (nums : List Int) : Gv N (scr N nums).1 (scr N nums).2 ∧ (scr N nums).2.length ≤ 30 := by
  have := scrG_gv (nums.take 30) _ _ (gv0 hN)
  refine ⟨this.1, Nat.le_trans this.2 ?_⟩
  simp only [List.length_nil, List.length_take]; omega
theorem Gv.apart {N : Nat} {m l1 l2 : List Bl} {b : Bl} (h : Gv N m (l1 ++ b :: l2)) {c : Bl} (hc : c ∈ l1 ++ l2) : b.1 + 2 ^ b.2 ≤ c.1 ∨ c.1 + 2 ^ c.2 ≤ b.1 := by
  obtain ⟨_, p2, p3⟩ := List.pairwise_append.1 h.dj
  rcases List.mem_append.1 hc with hc | hc
  · have := p3 c hc b (by simp); omega
  · exact (List.pairwise_cons.1 p2).1 c hc
theorem Gv.free {N : Nat} {m l1 l2 : List Bl} {b : Bl} (h : Gv N m (l1 ++ b :: l2)) : OkB N b ∧ Nofr m b.1 b.2 ∧ Gv N (bld N (frF m b.1 b.2)) (l1 ++ l2) ∧ ∀ i, frM (bld N (frF m b.1 b.2)) i = frF m b.1 b.2 i := by
  have ho := h.ok b (by simp)
  have hn : Nofr m b.1 b.2 := by
    intro i hi
    have h2 := inb_iff.1 hi
    have h3 := h2.2
    have := ho.2.1
    dsimp only at h3
    rw [h.fr i (by omega), List.any_append, List.any_cons, hi]
    simp
  have hres : Res N (frF m b.1 b.2) _ := free_law h.z.v ho hn
  have hsub : (l1 ++ l2).Sublist (l1 ++ b :: l2) := List.Sublist.append_left (List.sublist_cons_self b l2) l1
  refine ⟨ho, hn, ⟨vn_vz hres.vn, fun c hc => h.ok c (hsub.subset hc), fun c hc => h.le c (hsub.subset hc), h.dj.sublist hsub, fun i hi => ?_⟩, hres.fr⟩
  rw [hres.fr i]
  unfold frF
  rw [h.fr i hi, List.any_append, List.any_append, List.any_cons]
  cases hb : inb b.1 b.2 i with
  | false => simp
  | true =>
    have hno : ∀ c ∈ l1 ++ l2, ¬ inb c.1 c.2 i = true := by
      intro c hc hi2
      have h1 := inb_iff.1 hb
      have h2 := inb_iff.1 hi2
      obtain ⟨a1, a2⟩ := h1
      obtain ⟨a3, a4⟩ := h2
      dsimp only at a1 a2 a3 a4
      have := h.apart hc
      omega
    have e1 : (l1.any fun c => inb c.1 c.2 i) = false := List.any_eq_false.2 fun c hc => hno c (List.mem_append_left _ hc)
    have e2 : (l2.any fun c => inb c.1 c.2 i) = false := List.any_eq_false.2 fun c hc => hno c (List.mem_append_right _ hc)
    rw [e1, e2]; rfl
theorem Gv.at {N : Nat} {m out : List Bl} (h : Gv N m out) {k : Nat} (hk : k < out.length) : OkB N out[k] ∧ Nofr m out[k].1 out[k].2 ∧ Gv N (bld N (frF m out[k].1 out[k].2)) (out.take k ++ out.drop (k + 1)) ∧ ∀ i, frM (bld N (frF m out[k].1 out[k].2)) i = frF m out[k].1 out[k].2 i := by
  have e : out = out.take k ++ out[k] :: out.drop (k + 1) := by
    rw [← List.drop_eq_getElem_cons hk, List.take_append_drop]
  have h2 : Gv N m (out.take k ++ out[k] :: out.drop (k + 1)) := e ▸ h
  exact h2.free
theorem Gv.nil {N : Nat} {m : List Bl} (h : Gv N m []) : m = bld N (fl N) := by
  have e : frM m = fl N := by
    funext i
    by_cases hi : i < N
    · rw [h.fr i hi]; simp [fl, hi]
    · have : ¬ frM m i = true := by
        intro hf
        obtain ⟨b, hb, hi2⟩ := frM_iff.1 hf
        have := (h.z.v.ok b hb).2.1
        have := hi2.2
        omega
      rw [Bool.eq_false_iff.2 this]
      simp [fl, hi]
  rw [← e, h.z.v.bld]
theorem Gv.two {N : Nat} {m out : List Bl} (h : Gv N m out) {i k : Nat} (hi : i < out.length) (hk : k < out.length) (hne : i ≠ k) :
    OkB N out[k] ∧ Nofr (bld N (frF m out[i].1 out[i].2)) out[k].1 out[k].2 ∧ Gv N (bld N (frF m out[i].1 out[i].2)) (out.take i ++ out.drop (i + 1)) ∧
      bld N (frF (bld N (frF m out[i].1 out[i].2)) out[k].1 out[k].2) = bld N (frF (bld N (frF m out[k].1 out[k].2)) out[i].1 out[i].2) := by
  obtain ⟨o1, n1, g1, f1⟩ := h.at hi
  obtain ⟨o2, n2, g2, f2⟩ := h.at hk
  have hmem : out[k] ∈ out.take i ++ out.drop (i + 1) := by
    rcases Nat.lt_or_ge k i with hlt | hge
    · refine List.mem_append_left _ ?_
      have : (out.take i)[k]'(by simp; omega) = out[k] := List.getElem_take
      rw [← this]; exact List.getElem_mem _
    · refine List.mem_append_right _ ?_
      have : (out.drop (i + 1))[k - (i + 1)]'(by simp; omega) = out[k] := by
        rw [List.getElem_drop]; congr 1; omega
      rw [← this]; exact List.getElem_mem _
  obtain ⟨p, q, hpq⟩ := List.append_of_mem hmem
  rw [hpq] at g1
  obtain ⟨_, n3, _, _⟩ := g1.free
  refine ⟨o2, n3, hpq ▸ g1, ?_⟩
  congr 1
  funext x
  show (frM (bld N (frF m out[i].1 out[i].2)) x || inb out[k].1 out[k].2 x) = (frM (bld N (frF m out[k].1 out[k].2)) x || inb out[i].1 out[i].2 x)
  rw [f1 x, f2 x]
  show ((frM m x || inb out[i].1 out[i].2 x) || inb out[k].1 out[k].2 x) = ((frM m x || inb out[k].1 out[k].2 x) || inb out[i].1 out[i].2 x)
  rw [Bool.or_assoc, Bool.or_assoc, Bool.or_comm (inb out[i].1 out[i].2 x)]
/-- a block given out, freed again -/
theorem Gv.back {N : Nat} {m out : List Bl} (h : Gv N m out) {k : Nat} (hk : k ≤ 6) {b : Bl} (hb : Best m k b) :
    Vz N (bld N (frA m b.1 k)) ∧ OkB N (b.1, k) ∧ Nofr (bld N (frA m b.1 k)) b.1 k ∧ Allfr m b.1 k ∧ bld N (frF (bld N (frA m b.1 k)) b.1 k) = m := by
  obtain ⟨o1, o2, o3⟩ := h.z.v.ok b hb.mem
  have hle := Nat.pow_le_pow_right (n := 2) (by decide) hb.le
  have hal := al_down o3 hb.le
  have hres : Res N (frA m b.1 k) _ := take_law h.z.v hal hb.mem (Nat.le_refl _) (by omega) hb.le
  have hall : Allfr m b.1 k := by
    intro i hi
    obtain ⟨i1, i2⟩ := inb_iff.1 hi
    dsimp only at i1 i2
    exact frM_iff.2 ⟨b, hb.mem, by omega, by omega⟩
  refine ⟨vn_vz hres.vn, ⟨hk, by dsimp only; omega, hal⟩, fun i hi => ?_, hall, ?_⟩
  · rw [hres.fr i]; unfold frA; rw [hi]; simp
  · have e : frF (bld N (frA m b.1 k)) b.1 k = frM m := by
      funext i
      unfold frF
      rw [hres.fr i]
      unfold frA
      cases hi : inb b.1 k i with
      | false => simp
      | true => rw [hall i hi]; rfl
    rw [e, h.z.v.bld]
theorem cnt_int (a c : Nat) (h : a ≤ c) : ∀ n : Nat, (List.range n).countP (fun i => decide (a ≤ i) && decide (i < c)) = min n c - min n a
  | 0 => by simp
  | n + 1 => by
    rw [List.range_succ, List.countP_append, cnt_int a c h n, List.countP_cons, List.countP_nil]
    by_cases h1 : a ≤ n <;> by_cases h2 : n < c <;> simp [h1, h2] <;> omega
theorem cnt_or {p q : Nat → Bool} : ∀ l : List Nat, (∀ i ∈ l, ¬ (p i = true ∧ q i = true)) → l.countP (fun i => p i || q i) = l.countP p + l.countP q
  | [], _ => rfl
  | x :: l, h => by
    have ih := cnt_or l (fun i hi => h i (by simp [hi]))
    have hx := h x (by simp)
    rw [List.countP_cons, List.countP_cons, List.countP_cons, ih]
    cases hp : p x <;> cases hq : q x <;> simp [hp, hq] at hx ⊢ <;> omega
theorem sum_cov {N : Nat} : ∀ l : List Bl, (∀ b ∈ l, b.1 + 2 ^ b.2 ≤ N) → l.Pairwise (fun a b => a.1 + 2 ^ a.2 ≤ b.1 ∨ b.1 + 2 ^ b.2 ≤ a.1) → (l.map fun b => 2 ^ b.2).sum = (List.range N).countP (fun i => l.any fun b => inb b.1 b.2 i)
  | [], _, _ => by simp
  | b :: l, h, hd => by
    obtain ⟨d1, d2⟩ := List.pairwise_cons.1 hd
    have hb := h b (by simp)
    simp only [List.map_cons, List.sum_cons, List.any_cons]
    rw [cnt_or, ← sum_cov l (fun c hc => h c (by simp [hc])) d2]
    · congr 1
      unfold inb
      rw [cnt_int _ _ (Nat.le_add_right _ _)]
      generalize 2 ^ b.2 = s at hb
      omega
    · rintro i _ ⟨h1, h2⟩
      obtain ⟨c, hc, h3⟩ := List.any_eq_true.1 h2
      obtain ⟨a1, a2⟩ := inb_iff.1 h1
      obtain ⟨a3, a4⟩ := inb_iff.1 h3
      have := d1 c hc
      dsimp only at a1 a2 a3 a4
      omega
/-- all frames are free or given out -/
theorem Gv.sum {N : Nat} {m out : List Bl} (h : Gv N m out) : tot m + (out.map fun b => 2 ^ b.2).sum = N := by
  have h1 : tot m = (List.range N).countP (frM m) := by
    unfold tot totTo
    rw [List.take_length, sum_cov m (fun b hb => (h.z.v.ok b hb).2.1) (h.z.v.asc.imp fun hx => .inl hx)]
    rfl
  rw [h1, sum_cov out (fun b hb => (h.ok b hb).2.1) h.dj]
  have : (List.range N).countP (fun i => out.any fun b => inb b.1 b.2 i) = (List.range N).countP (fun i => !frM m i) := by
    refine List.countP_congr fun i hi => ?_
    rw [h.fr i (List.mem_range.1 hi)]; simp
  have e := List.length_eq_countP_add_countP (frM m) (l := List.range N)
  rw [List.length_range] at e
  have e2 : (List.range N).countP (fun i => !frM m i) = (List.range N).countP (fun a => decide ¬frM m a = true) := List.countP_congr fun i _ => by simp
  rw [this, e2]
  exact e.symm
end Go.Proofs.Ytacfipmigkbncaa
