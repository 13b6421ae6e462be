import Derived.Test.YtnclclpfmldocaaGreatEngU
import Derived.LoopN

/- Engine, part W: interface values, elements of array values, a loop unrolled. -/
namespace Go.Proofs.YtnclclpfmldocaaGreat
open Go.RowKit
set_option linter.unusedSimpArgs false
set_option linter.unusedVariables false

/-- a loop that ends within n rounds -/
def Wn (cx : Cx) (c : Code) (Q : Exit → St → Prop) : Nat → St → Prop
  | 0, _ => False
  | n + 1, σ => W cx c σ (thenQ (fun σ' => Wn cx c Q n σ') Q)
theorem Wn_rounds {cx : Cx} {c : Code} {Q : Exit → St → Prop} : ∀ (n : Nat) (σ : St), Wn cx c Q n σ → ∀ μ a w, RRs cx σ μ a w → Code.rounds cx.P c (fun e a' w' => ∃ σ' μ', Q e σ' ∧ RRs cx σ' μ' a' w') n a w
  | 0, _, h, _, _, _, _ => h.elim
  | n + 1, σ, h, μ, a, w, hr => by
    rw [rounds_succ]
    refine wp_mono (h μ a w hr) ?_
    rintro e a' w' ⟨σ', μ', h1, h2⟩
    cases e with
    | normal => exact Wn_rounds n σ' h1 μ' a' w' h2
    | _ => exact ⟨σ', μ', h1, h2⟩
theorem W_rounds {cx : Cx} {c : Code} {σ : St} {Q : Exit → St → Prop} (n : Nat) (h : Wn cx c Q n σ) : W cx (.loop c) σ Q := fun μ a w hr => wp_loop_rounds n (Wn_rounds n σ h μ a w hr)
theorem Wn_succ {cx : Cx} {c : Code} {σ : St} {Q : Exit → St → Prop} {n : Nat} (h : W cx c σ (thenQ (fun σ' => Wn cx c Q n σ') Q)) : Wn cx c Q (n + 1) σ := h

theorem ext_iface {P : Program} {n : Nat} {o : Oper} {σ : St} {K : Eff → Prop} {t : TypeId} {y : Operand} {x : AV} {d : TypeDesc} (ho : o.op = .makeInterface t y) (hd : dstOk n o.dst) (hu : P.underlying t = some d) (hn : (match d with | .interface _ => false | _ => true) = true)
    (hy : getT σ.T y = some x) (h : K ⟨.ifc t x, [], [], []⟩) : extV P n o σ K := by
  refine ⟨_, fun cx hP hcn => ?_, h⟩
  subst hP hcn
  refine loc_val hd fun H T μ a w hr he _ => ⟨.iface t (a.eval y), ?_, .ifc (he y x (by simp [Op.operands, ho]) hy)⟩
  simp only [execOp, ho]
  refine run_v ?_
  cases d <;> simp_all [Instr.makeInterface, run_underlying hu]

theorem ext_index {P : Program} {n : Nat} {o : Oper} {σ : St} {K : Eff → Prop} {t e : TypeId} {m : Nat} {y z : Operand} {cs : List AV} {kk : IntKind} {i : Int} (ho : o.op = .index t y z) (hd : dstOk n o.dst) (hok : (TL P t).ok = true) (hae : (TL P t).aelem = some (m, e)) (heok : (TL P e).ok = true) (hag : (TL P e).agg = true)
    (hy : getT σ.T y = some (.agg cs)) (hz : getT σ.T z = some (.d (.int kk i))) (h0 : 0 ≤ i) (h1 : i < m) (hl : i.toNat * (TL P e).size + (TL P e).size ≤ cs.length)
    (h : K ⟨.agg ((cs.drop (i.toNat * (TL P e).size)).take (TL P e).size), [], [], []⟩) : extV P n o σ K := by
  refine ⟨_, fun cx hP hcn => ?_, h⟩
  subst hP hcn
  have hu := TL_aelem hok hae
  obtain ⟨ie, de, hi1, hi2, hsz, hagd, _⟩ := TL_ok heok
  have hagg : ∀ w : World, (isAgg e).run cx.P w = .ok true w := by
    intro w
    unfold isAgg
    rw [Sem.run_bind, run_underlying hi2 w]
    rw [hagd] at hag
    cases de <;> simp_all [aggD]
  refine loc_val hd fun H T μ a w hr he _ => ?_
  have h5 := he y _ (by simp [Op.operands, ho]) hy
  have h6 := he z _ (by simp [Op.operands, ho]) hz
  generalize hv : a.eval y = v at h5
  generalize hv2 : a.eval z = v2 at h6
  cases h6 with
  | d h6 =>
  cases h6
  cases h5 with
  | agg r1 r2 r3 =>
    rename_i vs
    refine ⟨.agg (vs.extract (i.toNat * (TL cx.P e).size) (i.toNat * (TL cx.P e).size + (TL cx.P e).size)), ?_, .agg (by simp; omega) (fun j x' u hx hu => ?_) (fun u hu => r3 u ?_)⟩
    · simp only [execOp, ho, hv, hv2]
      refine run_v ?_
      simp [Instr.index, run_underlying hu, asIntOf, asAgg, part, hagg, sizeOf, typeInfo, hi1, hsz, h0, h1]
    · rw [List.getElem?_take] at hx
      split at hx
      · rw [List.getElem?_drop] at hx
        refine r2 _ x' u hx ?_
        rw [Array.getElem?_extract] at hu
        split at hu
        · exact hu
        · cases hu
      · cases hx
    · obtain ⟨q, hq, rfl⟩ := Array.mem_iff_getElem.1 hu
      simp at hq ⊢
end Go.Proofs.YtnclclpfmldocaaGreat

/- Engine, part X: results that nobody owns: the rows that a function made stand as pure data. -/
namespace Go.Proofs.YtnclclpfmldocaaGreat
open Go.RowKit
set_option linter.unusedSimpArgs false
set_option linter.unusedVariables false

theorem frz_rows {w : World} {S V' : Nat → Prop} {μ : Mu} {i sz o len b c : Nat} {t : TypeId} {rs : List (List D)} (hob : ObRep w S μ i (.rows t sz rs)) (hb : μ i = some (some b)) (hV : ∀ b, S b → V' b) (hVb : V' b)
    (hlen : (((rs.drop o).take len).length = len)) (hc : len ≤ c) : RepD w V' (.sl ((rs.drop o).take len)) (.slice (some ⟨b, o * sz, none⟩) len c) := by
  cases hob with
  | rowsNil b1 _ => rw [hb] at b1; cases b1
  | rows b1 b2 b3 b4 b5 b6 =>
    rename_i b' arr
    rw [hb] at b1; injection b1 with b1; injection b1 with b1; subst b1
    have get : ∀ (p : Nat) (r : List D), ((rs.drop o).take len)[p]? = some r → rs[o + p]? = some r := by
      intro p r hp
      rw [List.getElem?_take] at hp
      split at hp
      · rwa [List.getElem?_drop] at hp
      · cases hp
    have hl : .slice (some ⟨b, o * sz, none⟩) len c = Value.slice (some ⟨b, o * sz, none⟩) ((rs.drop o).take len).length c := by rw [hlen]
    rw [hl]
    have cell : ∀ (p j : Nat) (r : List D) (x : D), ((rs.drop o).take len)[p]? = some r → r[j]? = some x → (o + p) * sz + j < arr.size := by
      intro p j r x hp hj
      have h1 := get p r hp
      have h2 : o + p < rs.length := (List.getElem?_eq_some_iff.1 h1).1
      have h3 := b5 _ _ h1
      have h4 : j < sz := by rw [← h3]; exact (List.getElem?_eq_some_iff.1 hj).1
      have : (o + p + 1) * sz ≤ rs.length * sz := Nat.mul_le_mul_right _ h2
      rw [Nat.add_mul, Nat.one_mul] at this; omega
    refine .sl (sz := sz) (fun p j => arr.getD ((o + p) * sz + j) undef) hVb (by rw [hlen]; exact hc) (fun p r hp => b5 _ _ (get p r hp)) (fun p j r x hp hj => ?_) (fun p j r x hp hj => ?_)
    · have hlt := cell p j r x hp hj
      have e : o * sz + p * sz + j = (o + p) * sz + j := by rw [Nat.add_mul]
      rw [e]
      simp [World.cell?, b2, hlt]
    · have hlt := cell p j r x hp hj
      have := b6 (o + p) j r x arr[(o + p) * sz + j] (get p r hp) hj (by simp [hlt])
      have e : arr.getD ((o + p) * sz + j) undef = arr[(o + p) * sz + j] := by simp [hlt]
      rw [e]
      exact this.evolve (Ev.refl w (fun _ => False)) (fun _ h => h.elim) hV

def frz1 (outs : List Ob) : AV → Option AV
  | .d x => some (.d x)
  | .nil => some (.d (.sl []))
  | .row i sz o len => match outs[i]? with
    | some (.rows _ sz' rs) => if sz' = sz ∧ o + len ≤ rs.length then some (.d (.sl ((rs.drop o).take len))) else none
    | _ => none
  | _ => none
def frzL (outs : List Ob) : List AV → Option (List AV)
  | [] => some []
  | x :: l => (frz1 outs x).bind fun y => (frzL outs l).map (y :: ·)
def frzA (outs : List Ob) : AV → Option AV
  | .agg cs => (frzL outs cs).map .agg
  | x => frz1 outs x
def frzAL (outs : List Ob) : List AV → Option (List AV)
  | [] => some []
  | x :: l => (frzA outs x).bind fun y => (frzAL outs l).map (y :: ·)
def frz (outs : List Ob) : AV → Option AV
  | .tup xs => (frzAL outs xs).map .tup
  | x => frzA outs x

theorem frzL_get {outs : List Ob} : ∀ {l m : List AV}, frzL outs l = some m → m.length = l.length ∧ ∀ (j : Nat) (x y : AV), l[j]? = some x → m[j]? = some y → frz1 outs x = some y
  | [], m, h => by simp [frzL] at h; subst h; simp
  | z :: l, m, h => by
    simp only [frzL, Option.bind_eq_some_iff, Option.map_eq_some_iff] at h
    obtain ⟨y, hy, m', hm, rfl⟩ := h
    obtain ⟨h1, h2⟩ := frzL_get hm
    refine ⟨by simp [h1], fun j x y' hx hy' => ?_⟩
    cases j with
    | zero => simp at hx hy'; subst hx hy'; exact hy
    | succ j => simp at hx hy'; exact h2 j x y' hx hy'
theorem frzAL_get {outs : List Ob} : ∀ {l m : List AV}, frzAL outs l = some m → m.length = l.length ∧ ∀ (j : Nat) (x y : AV), l[j]? = some x → m[j]? = some y → frzA outs x = some y
  | [], m, h => by simp [frzAL] at h; subst h; simp
  | z :: l, m, h => by
    simp only [frzAL, Option.bind_eq_some_iff, Option.map_eq_some_iff] at h
    obtain ⟨y, hy, m', hm, rfl⟩ := h
    obtain ⟨h1, h2⟩ := frzAL_get hm
    refine ⟨by simp [h1], fun j x y' hx hy' => ?_⟩
    cases j with
    | zero => simp at hx hy'; subst hx hy'; exact hy
    | succ j => simp at hx hy'; exact h2 j x y' hx hy'

section
variable {w : World} {S V' : Nat → Prop} {μ : Mu} {outs : List Ob}

theorem frz1_rep (hob : ∀ i o, outs[i]? = some o → ObRep w S μ i o) (hV : ∀ b, S b → V' b) (hnew : ∀ i b, μ i = some (some b) → V' b) {x y : AV} {v : Value} (h : frz1 outs x = some y) (hr : Rep w S μ x v) (μ0 : Mu) : Rep w V' μ0 y v := by
  cases hr with
  | d hd => simp [frz1] at h; subst h; exact .d (hd.evolve (Ev.refl w (fun _ => False)) (fun _ h => h.elim) hV)
  | nil => simp [frz1] at h; subst h; exact .d .nil
  | @rowNil i sz h1 =>
    simp only [frz1] at h
    split at h
    · split at h
      · injection h with h; subst h; simpa using Rep.d (.nil)
      · cases h
    · cases h
  | @row i sz o len b c arr t h1 h2 h3 h4 h5 =>
    simp only [frz1] at h
    split at h
    · rename_i t' sz' rs hi
      split at h
      · rename_i hc
        obtain ⟨rfl, hl⟩ := hc
        injection h with h; subst h
        exact .d (frz_rows (hob i _ hi) h1 hV (hnew i b h1) (by simp; omega) h3)
      · cases h
    · cases h
  | _ => simp [frz1] at h

theorem frzA_rep (hob : ∀ i o, outs[i]? = some o → ObRep w S μ i o) (hV : ∀ b, S b → V' b) (hnew : ∀ i b, μ i = some (some b) → V' b) {x y : AV} {v : Value} (h : frzA outs x = some y) (hr : Rep w S μ x v) (μ0 : Mu) : Rep w V' μ0 y v := by
  by_cases hx : ∃ cs, x = .agg cs
  · obtain ⟨cs, rfl⟩ := hx
    simp only [frzA, Option.map_eq_some_iff] at h
    obtain ⟨m, hm, rfl⟩ := h
    obtain ⟨hl, hg⟩ := frzL_get hm
    cases hr with
    | agg h1 h2 h3 =>
      refine .agg (by omega) (fun j y u hy hu => ?_) h3
      have hj : j < cs.length := by rw [← hl]; exact (List.getElem?_eq_some_iff.1 hy).1
      exact frz1_rep hob hV hnew (hg j _ y (List.getElem?_eq_getElem hj) hy) (h2 j _ u (List.getElem?_eq_getElem hj) hu) μ0
  · have : frzA outs x = frz1 outs x := by
      cases x <;> first | rfl | exact absurd ⟨_, rfl⟩ hx
    rw [this] at h
    exact frz1_rep hob hV hnew h hr μ0

theorem frz_rep (hob : ∀ i o, outs[i]? = some o → ObRep w S μ i o) (hV : ∀ b, S b → V' b) (hnew : ∀ i b, μ i = some (some b) → V' b) {x y : AV} {v : Value} (h : frz outs x = some y) (hr : Rep w S μ x v) (μ0 : Mu) : Rep w V' μ0 y v := by
  by_cases hx : ∃ cs, x = .tup cs
  · obtain ⟨cs, rfl⟩ := hx
    simp only [frz, Option.map_eq_some_iff] at h
    obtain ⟨m, hm, rfl⟩ := h
    obtain ⟨hl, hg⟩ := frzAL_get hm
    cases hr with
    | tup h1 h2 =>
      refine .tup (by omega) (fun j y u hy hu => ?_)
      have hj : j < cs.length := by rw [← hl]; exact (List.getElem?_eq_some_iff.1 hy).1
      exact frzA_rep hob hV hnew (hg j _ y (List.getElem?_eq_getElem hj) hy) (h2 j _ u (List.getElem?_eq_getElem hj) hu) μ0
  · have : frz outs x = frzA outs x := by
      cases x <;> first | rfl | exact absurd ⟨_, rfl⟩ hx
    rw [this] at h
    exact frzA_rep hob hV hnew h hr μ0
end

/-- A contract whose results are rows of the caller's own, as one whose results are pure data. -/
theorem ok_frz {P : Program} {f : FuncId} {s : Spec} (hok : Ok P f s) (s' : Spec) (hal : s'.al = true)
    (h : ∀ args ins res' outs', s'.rel args ins res' outs' → ins = [] ∧ outs' = [] ∧ ∃ res outs, s.rel args [] res outs ∧ frz outs res = some res') : Ok P f s' := by
  refine ⟨hok.1, ?_⟩
  intro args ins res' outs' hrel w V Bo μ vals hin
  obtain ⟨rfl, rfl, res, outs, hr, hf⟩ := h _ _ _ _ hrel
  refine (hok.2 args [] res outs hr w V Bo μ vals hin).mono ?_
  rintro e w' ⟨v, μ', rfl, ho⟩
  refine ⟨v, fun _ => none, rfl, ho.ev, fun i x hx => ?_, ?_, (by simp), (fun i b _ h => by cases h), (by simp), (fun _ _ => rfl), Nat.le_refl _⟩
  · rw [hin.lt i (by simp)] at hx; cases hx
  · refine frz_rep (S := outS s.al V w w' μ' outs.length) (fun i o hi => ho.ob i o hi (.inl (Nat.zero_le _))) (fun b hb => ?_) (fun i b hb => ?_) hf ho.res _
    · rcases hb with ⟨_, hv⟩ | ⟨h1, h2, _⟩
      · exact .inl ⟨hal, hv⟩
      · exact .inr ⟨h1, h2, fun i hi => absurd hi (by simp)⟩
    · have := ho.new i b (Nat.zero_le _) hb
      refine .inr ⟨?_, this.2, fun i hi => absurd hi (by simp)⟩
      rcases this.1 with h1 | ⟨j, hj, _⟩
      · exact h1
      · exact absurd hj (by simp)
attribute [go_sem] frz frzA frzAL frzL frz1
end Go.Proofs.YtnclclpfmldocaaGreat
