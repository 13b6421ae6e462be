/- Engine, part D: loads, stores, addresses. -/
import Derived.Test.YtokocigmchfdfaaEngC
set_option linter.unusedSimpArgs false
set_option linter.unusedVariables false
namespace Go.Proofs.Ytokocigmchfdfaa
open Go.RowKit

/-- the cells from an address on stand for these -/
def RangeA (w : World) (S : Nat → Prop) (μ : Mu) (b off : Nat) (xs : List AV) : Prop :=
  ∀ (j : Nat) (x : AV), xs[j]? = some x → ∃ v, w.cell? ⟨b, off + j, none⟩ = some v ∧ Rep w S μ x v ∧ v.oneCell' = true

theorem list_choose {α β : Type} {p : Nat → α → β → Prop} : ∀ (l : List α), (∀ (j : Nat) (x : α), l[j]? = some x → ∃ v, p j x v) → ∃ vs : List β, vs.length = l.length ∧ ∀ (j : Nat) (x : α) (v : β), l[j]? = some x → vs[j]? = some v → p j x v
  | [], _ => ⟨[], rfl, by simp⟩
  | a :: l, h => by
    obtain ⟨v, hv⟩ := h 0 a rfl
    obtain ⟨vs, h1, h2⟩ := list_choose (p := fun j => p (j + 1)) l (fun j x hx => h (j + 1) x (by simpa using hx))
    refine ⟨v :: vs, by simp [h1], fun j x u hx hu => ?_⟩
    cases j with
    | zero => simp at hx hu; subst hx hu; exact hv
    | succ j => simp at hx hu; exact h2 j x u hx hu

theorem run_v {P : Program} {s : Sem Value} {w w' : World} {v : Value} (h : s.run P w = .ok v w') : (do let x ← s; pure (Next.value x) : Sem Next).run P w = .ok (.value v) w' := by
  rw [Sem.run_bind, h]; rfl
theorem run_u {P : Program} {s : Sem Unit} {w w' : World} (h : s.run P w = .ok () w') : (do s; pure Next.skip : Sem Next).run P w = .ok .skip w' := by
  rw [Sem.run_bind, h]; rfl
theorem run_loadAt_one {P : Program} (w : World) (t : TypeId) (b off : Nat) (v : Value) (d : TypeDesc) (hu : P.underlying t = some d) (hd : aggD d = false) (hc : w.cell? ⟨b, off, none⟩ = some v) :
    (Instr.loadAt t (.pointer (some ⟨b, off, none⟩))).run P w = .ok v w := by
  have hagg : (isAgg t).run P w = .ok false w := by
    unfold isAgg
    rw [Sem.run_bind, run_underlying hu w]
    cases d <;> simp_all [aggD]
  simp [Instr.loadAt, Instr.sureAddr, loadVar, hagg, hc]

/-- what a load of type t makes of the cells xs that lie at the address -/
def ldV (P : Program) (t : TypeId) (xs : List AV) (K : AV → Prop) : Prop :=
  (TL P t).ok = true ∧ (if (TL P t).agg then (TL P t).size ≤ xs.length ∧ K (.agg (xs.take (TL P t).size)) else ∃ x, xs[0]? = some x ∧ K x)

theorem run_load {P : Program} {w : World} {S : Nat → Prop} {μ : Mu} {b off : Nat} {xs : List AV} {t : TypeId} {K : AV → Prop} (hr : RangeA w S μ b off xs) (h : ldV P t xs K) :
    ∃ x v, K x ∧ (Instr.loadAt t (.pointer (some ⟨b, off, none⟩))).run P w = .ok v w ∧ Rep w S μ x v := by
  obtain ⟨hok, h⟩ := h
  obtain ⟨i, d, h1, h2, h3, h4, _⟩ := TL_ok hok
  by_cases hagg : (TL P t).agg = true
  · rw [if_pos hagg] at h
    obtain ⟨hle, hK⟩ := h
    obtain ⟨vs, hl, hv⟩ := list_choose (p := fun j x v => w.cell? ⟨b, off + j, none⟩ = some v ∧ Rep w S μ x v ∧ v.oneCell' = true) (xs.take (TL P t).size) (fun j x hx => hr j x (by
      rw [List.getElem?_take] at hx; split at hx; (· exact hx); (· cases hx)))
    have hlen : vs.length = (TL P t).size := by rw [hl, List.length_take]; omega
    have get : ∀ (j : Nat) (v : Value), vs[j]? = some v → ∃ x, (xs.take (TL P t).size)[j]? = some x := by
      intro j v hj
      have : j < (xs.take (TL P t).size).length := hl ▸ (List.getElem?_eq_some_iff.1 hj).1
      exact ⟨_, List.getElem?_eq_getElem this⟩
    refine ⟨_, .agg vs.toArray, hK, run_loadAt_mid w b off t vs d (fun j v hj => ?_) h2 ?_ ?_, .agg (by simp [hl]) (fun j x v hx hj => (hv j x v hx (by simpa using hj)).2.1) (fun v hm => ?_)⟩
    · obtain ⟨x, hx⟩ := get j v hj
      exact (hv j x v hx hj).1
    · rw [h4] at hagg; cases d <;> simp_all [aggD]
    · rw [h1]; simp [hlen, h3]
    · obtain ⟨j, hj⟩ := List.mem_iff_getElem?.1 (by simpa using hm : v ∈ vs)
      obtain ⟨x, hx⟩ := get j v hj
      exact (hv j x v hx hj).2.2
  · rw [if_neg hagg] at h
    obtain ⟨x, hx, hK⟩ := h
    obtain ⟨v, hc, hrep, _⟩ := hr 0 x hx
    exact ⟨x, v, hK, run_loadAt_one w t b off v d h2 (by rw [h4] at hagg; simpa using hagg) (by simpa using hc), hrep⟩

theorem range_box {cx : Cx} {H : Nat → Option Ob} {T : Nat → Option AV} {μ : Mu} {a : Act} {w : World} (hr : RR cx H T μ a w) {i off b : Nat} {t : TypeId} {cs : List AV} (hi : H i = some (.box t cs)) (hb : μ i = some (some b)) :
    RangeA w (cx.Sta H μ w) μ b off (cs.drop off) := by
  intro j x hx
  rw [List.getElem?_drop] at hx
  cases hr.ob i _ hi with
  | box h1 h2 h3 h4 h5 =>
    rw [hb] at h1; injection h1 with h1; injection h1 with h1; subst h1
    rename_i arr
    have hlt : off + j < arr.size := by rw [h3]; exact (List.getElem?_eq_some_iff.1 hx).1
    exact ⟨arr[off + j], by simp [World.cell?, h2, hlt], h4 _ x _ hx (by simp [hlt]), h5 _ (by simp)⟩

theorem range_rows {cx : Cx} {H : Nat → Option Ob} {T : Nat → Option AV} {μ : Mu} {a : Act} {w : World} (hr : RR cx H T μ a w) {i idx k b sz : Nat} {t : TypeId} {rs : List (List D)} {r : List D} (hi : H i = some (.rows t sz rs)) (hb : μ i = some (some b))
    (hx : rs[idx]? = some r) : RangeA w (cx.Sta H μ w) μ b (idx * sz + k) ((r.drop k).map .d) := by
  intro j x hj
  rw [List.getElem?_map, List.getElem?_drop] at hj
  cases hd : r[k + j]? with
  | none => simp [hd] at hj
  | some y =>
    simp [hd] at hj; subst hj
    cases hr.ob i _ hi with
    | rowsNil h1 _ => rw [hb] at h1; cases h1
    | rows h1 h2 h3 h4 h5 h6 =>
      rw [hb] at h1; injection h1 with h1; injection h1 with h1; subst h1
      rename_i arr
      have hk : k + j < sz := by rw [← h5 idx r hx]; exact (List.getElem?_eq_some_iff.1 hd).1
      have hidx : idx < rs.length := (List.getElem?_eq_some_iff.1 hx).1
      have hlt : idx * sz + (k + j) < arr.size := by
        have : (idx + 1) * sz ≤ rs.length * sz := Nat.mul_le_mul_right _ hidx
        rw [Nat.add_mul] at this; omega
      have := h6 idx (k + j) r y arr[idx * sz + (k + j)] hx hd (by simp [hlt])
      exact ⟨arr[idx * sz + (k + j)], by simp [World.cell?, h2, hlt, Nat.add_assoc], .d this, this.one⟩

theorem range_dp {w : World} {S : Nat → Prop} {μ : Mu} {r : List D} {v : Value} (h : Rep w S μ (.dp r) v) : ∃ b off, v = .pointer (some ⟨b, off, none⟩) ∧ RangeA w S μ b off (r.map .d) := by
  cases h with
  | dp f hS hc hrep =>
    rename_i b off
    refine ⟨b, off, rfl, fun j x hx => ?_⟩
    rw [List.getElem?_map] at hx
    cases hd : r[j]? with
    | none => simp [hd] at hx
    | some y => simp [hd] at hx; subst hx; exact ⟨f j, hc j y hd, .d (hrep j y hd), (hrep j y hd).one⟩

/-- the cells that lie at a pointer, and which object holds them -/
def atV (hs : Nat → Option Ob) (p : AV) (K : List AV → List Nat → Prop) : Prop :=
  match p with
  | .ptr i off => match hs i with
    | some (.box _ cs) => K (cs.drop off) [i]
    | _ => False
  | .ep i sz idx k => match hs i with
    | some (.rows _ sz' rs) => sz' = sz ∧ ∃ r, rs[idx]? = some r ∧ K ((r.drop k).map .d) [i]
    | _ => False
  | .dp r => K (r.map .d) []
  | _ => False

theorem atV_range {hs : Nat → Option Ob} {p : AV} {K : List AV → List Nat → Prop} (h : atV hs p K) : ∃ xs rd, K xs rd ∧
    ∀ (cx : Cx) (H : Nat → Option Ob) (T : Nat → Option AV) (μ : Mu) (a : Act) (w : World) (v : Value), RR cx H T μ a w → Rep w (cx.Sta H μ w) μ p v → (∀ i, i ∈ rd → H i = hs i) →
      ∃ b off, v = .pointer (some ⟨b, off, none⟩) ∧ RangeA w (cx.Sta H μ w) μ b off xs := by
  cases p with
  | ptr i off =>
    simp only [atV] at h
    cases hi : hs i with
    | none => simp [hi] at h
    | some ob =>
      cases ob with
      | rows t sz rs => simp [hi] at h
      | box t cs =>
        simp only [hi] at h
        refine ⟨_, _, h, fun cx H T μ a w v hr hp hH => ?_⟩
        cases hp with
        | ptr hb => exact ⟨_, off, rfl, range_box hr ((hH i (by simp)).trans hi) hb⟩
  | ep i sz idx k =>
    simp only [atV] at h
    cases hi : hs i with
    | none => simp [hi] at h
    | some ob =>
      cases ob with
      | box t cs => simp [hi] at h
      | rows t sz' rs =>
        simp only [hi] at h
        obtain ⟨rfl, r, hx, hK⟩ := h
        refine ⟨_, _, hK, fun cx H T μ a w v hr hp hH => ?_⟩
        cases hp with
        | ep hb => exact ⟨_, _, rfl, range_rows hr ((hH i (by simp)).trans hi) hb hx⟩
  | dp r => exact ⟨_, _, h, fun cx H T μ a w v hr hp _ => range_dp hp⟩
  | _ => exact h.elim

theorem loc_load {cx : Cx} {n0 : Nat} {ts : Nat → Option AV} {hs : Nat → Option Ob} {o : Oper} {t : TypeId} {y : Operand} {p : AV} {K : Eff → Prop} (hd : dstOk cx.n o.dst) (ho : o.op = .load t y) (hy : getT ts y = some p)
    (h : atV hs p fun xs rd => ldV cx.P t xs fun x => K ⟨x, [], [], rd⟩) : ∃ e, LocOp cx n0 ts hs o e ∧ K e := by
  obtain ⟨xs, rd, hl, hrange⟩ := atV_range h
  have hx : ∃ x, K ⟨x, [], [], rd⟩ ∧ ldV cx.P t xs fun y => y = x := by
    obtain ⟨hok, hl⟩ := hl
    by_cases hagg : (TL cx.P t).agg = true
    · rw [if_pos hagg] at hl
      exact ⟨_, hl.2, hok, by rw [if_pos hagg]; exact ⟨hl.1, rfl⟩⟩
    · rw [if_neg hagg] at hl
      obtain ⟨x, h1, h2⟩ := hl
      exact ⟨x, h2, hok, by rw [if_neg hagg]; exact ⟨x, h1, rfl⟩⟩
  obtain ⟨x, hK, hl'⟩ := hx
  refine ⟨_, loc_val hd fun H T μ a w hr he hH => ?_, hK⟩
  obtain ⟨b, off, hv, hR⟩ := hrange cx H T μ a w (a.eval y) hr (he y p (by simp [Op.operands, ho]) hy) hH
  obtain ⟨x', v, rfl, hrun, hrep⟩ := run_load hR hl'
  exact ⟨v, by simp [execOp, ho, hv, hrun], hrep⟩

/-! ### addresses -/
def faV (P : Program) (t : TypeId) (k : Nat) (p : AV) (K : AV → Prop) : Prop :=
  (TL P t).ok = true ∧ ∃ off, (TL P t).ofs[k]? = some off ∧ (∃ z, (TL P t).osz[k]? = some z ∧ 0 < z) ∧
  match p with
  | .ptr i o => K (.ptr i (o + off))
  | .ep i sz idx q => K (.ep i sz idx (q + off))
  | .dp r => K (.dp (r.drop off))
  | _ => False

theorem Addr_add (b o j : Nat) : (⟨b, o, none⟩ : Addr).add j = ⟨b, o + j, none⟩ := by unfold Addr.add; split <;> simp_all

theorem Rep.dp_drop {w : World} {S : Nat → Prop} {μ : Mu} {r : List D} {b off : Nat} (h : Rep w S μ (.dp r) (.pointer (some ⟨b, off, none⟩))) (k : Nat) : Rep w S μ (.dp (r.drop k)) (.pointer (some ⟨b, off + k, none⟩)) := by
  cases h with
  | dp f hS hc hrep =>
    refine .dp (fun j => f (k + j)) hS (fun j x hx => ?_) (fun j x hx => hrep _ x (by simpa [List.getElem?_drop] using hx))
    have := hc (k + j) x (by simpa [List.getElem?_drop] using hx)
    rw [Nat.add_assoc]; exact this

theorem TL_struct {P : Program} {t : TypeId} {k off z : Nat} (hok : (TL P t).ok = true) (h1 : (TL P t).ofs[k]? = some off) (h2 : (TL P t).osz[k]? = some z) :
    ∃ fs f, P.underlying t = some (.struct fs) ∧ fs[k]? = some f ∧ f.offset = off ∧ P.cellsOf f.type = z ∧ ((TL P t).oagg[k]? = some (tagg P f.type)) := by
  obtain ⟨i, d, hi, hu, _⟩ := TL_ok hok
  unfold TL at *
  simp only [hi, hu] at h1 h2 ⊢
  cases d <;> simp at h1 h2
  rename_i fs _
  obtain ⟨f, hf, e1⟩ := h1
  obtain ⟨f', hf', e2⟩ := h2
  rw [hf] at hf'; injection hf' with hf'; subst hf'
  exact ⟨fs, f, rfl, hf, e1, e2, by simp [hf]⟩

theorem cellsOf_info {P : Program} {t : TypeId} {z : Nat} (h : P.cellsOf t = z) (hz : 0 < z) : ∃ i, P.info? t = some i ∧ i.size = z := by
  unfold Program.cellsOf at h
  cases hi : P.info? t with
  | none => simp [hi] at h; omega
  | some i => exact ⟨i, rfl, by simpa [hi] using h⟩

theorem loc_fieldAddr {cx : Cx} {n0 : Nat} {ts : Nat → Option AV} {hs : Nat → Option Ob} {o : Oper} {t : TypeId} {y : Operand} {k : Nat} {p : AV} {K : Eff → Prop} (hd : dstOk cx.n o.dst) (ho : o.op = .fieldAddr t y k) (hy : getT ts y = some p)
    (h : faV cx.P t k p fun x => K ⟨x, [], [], []⟩) : ∃ e, LocOp cx n0 ts hs o e ∧ K e := by
  obtain ⟨hok, off, h1, ⟨z, h2, hz⟩, h3⟩ := h
  obtain ⟨fs, f, hu, hf, rfl, hc, _⟩ := TL_struct hok h1 h2
  obtain ⟨i, hi, hsz⟩ := cellsOf_info hc hz
  have run : ∀ (w : World) (b o : Nat), (Instr.fieldAt t (.pointer (some ⟨b, o, none⟩)) k).run cx.P w = .ok (.pointer (some ⟨b, o + f.offset, none⟩)) w := by
    intro w b o
    have : ¬ i.size = 0 := by omega
    simp [Instr.fieldAt, run_underlying hu, hf, Instr.sureAddr, fieldPlace, sizeOf, typeInfo, hi, this, Addr_add]
  cases p with
  | ptr i o' =>
    refine ⟨_, loc_val hd fun H T μ a w hr he _ => ?_, h3⟩
    have h4 := he y _ (by simp [Op.operands, ho]) hy
    generalize hv : a.eval y = v at h4
    cases h4 with
    | ptr hb => exact ⟨_, by simp [execOp, ho, hv, run], .ptr hb⟩
  | ep i sz idx q =>
    refine ⟨_, loc_val hd fun H T μ a w hr he _ => ?_, h3⟩
    have h4 := he y _ (by simp [Op.operands, ho]) hy
    generalize hv : a.eval y = v at h4
    cases h4 with
    | ep hb => exact ⟨_, by simp only [execOp, ho, hv]; exact run_v (run _ _ _), by rw [Nat.add_assoc]; exact .ep hb⟩
  | dp r =>
    refine ⟨_, loc_val hd fun H T μ a w hr he _ => ?_, h3⟩
    have h4 := he y _ (by simp [Op.operands, ho]) hy
    obtain ⟨b, off, hv, _⟩ := range_dp h4
    rw [hv] at h4
    exact ⟨_, by simp [execOp, ho, hv, run], h4.dp_drop _⟩
  | _ => exact h3.elim

/-- which slice or array element -/
def iaV (P : Program) (t : TypeId) (p : AV) (n : Int) (K : AV → Prop) : Prop :=
  (TL P t).ok = true ∧
  match (TL P t).selem with
  | some e => (TL P e).ok = true ∧
    (match p with
      | .d (.sl rows) => 0 ≤ n ∧ ∃ r, rows[n.toNat]? = some r ∧ r.length = (TL P e).size ∧ K (.dp r)
      | .row i sz o len => sz = (TL P e).size ∧ 0 ≤ n ∧ n < len ∧ K (.ep i sz (o + n.toNat) 0)
      | .sub i sz o len => sz = (TL P e).size ∧ 0 ≤ n ∧ n < len ∧ K (.ep i sz (o + n.toNat) 0)
      | _ => False)
  | none => match (TL P t).aelem with
    | some (m, e) => (TL P e).ok = true ∧
      (match p with
        | .ptr i o => 0 ≤ n ∧ n < m ∧ K (.ptr i (o + n.toNat * (TL P e).size))
        | .ep i sz 0 0 => sz = (TL P e).size ∧ 0 ≤ n ∧ n < m ∧ K (.ep i sz n.toNat 0)
        | _ => False)
    | none => False

theorem TL_selem {P : Program} {t e : TypeId} (hok : (TL P t).ok = true) (h : (TL P t).selem = some e) : P.underlying t = some (.slice e) := by
  obtain ⟨i, d, hi, hu, _⟩ := TL_ok hok
  unfold TL at h
  simp only [hi, hu] at h
  cases d <;> simp at h
  subst h; exact hu
theorem TL_aelem {P : Program} {t e : TypeId} {m : Nat} (hok : (TL P t).ok = true) (h : (TL P t).aelem = some (m, e)) : P.underlying t = some (.array m e) := by
  obtain ⟨i, d, hi, hu, _⟩ := TL_ok hok
  unfold TL at h
  simp only [hi, hu] at h
  cases d <;> simp at h
  obtain ⟨rfl, rfl⟩ := h; exact hu

theorem run_indexAt_sl {P : Program} (w : World) (t e : TypeId) (i : TypeInfo) (hu : P.underlying t = some (.slice e)) (hi : P.info? e = some i) (b o len c : Nat) (k : IntKind) (n : Int) (h0 : 0 ≤ n) (h1 : n < len) :
    (Instr.indexAt t (.slice (some ⟨b, o, none⟩) len c) (.int k n)).run P w = .ok (.pointer (some ⟨b, o + n.toNat * i.size, none⟩)) w := by
  simp [Instr.indexAt, asIntOf, run_underlying hu, h0, h1, sizeOf, typeInfo, hi, Addr_add]
theorem run_indexAt_ar {P : Program} (w : World) (t e : TypeId) (m : Nat) (i : TypeInfo) (hu : P.underlying t = some (.array m e)) (hi : P.info? e = some i) (b o : Nat) (k : IntKind) (n : Int) (h0 : 0 ≤ n) (h1 : n < m) :
    (Instr.indexAt t (.pointer (some ⟨b, o, none⟩)) (.int k n)).run P w = .ok (.pointer (some ⟨b, o + n.toNat * i.size, none⟩)) w := by
  simp [Instr.indexAt, asIntOf, run_underlying hu, h0, h1, sizeOf, typeInfo, hi, Addr_add, Instr.sureAddr]

theorem loc_indexAddr {cx : Cx} {n0 : Nat} {ts : Nat → Option AV} {hs : Nat → Option Ob} {o : Oper} {t : TypeId} {y z : Operand} {k : IntKind} {n : Int} {p : AV} {K : Eff → Prop} (hd : dstOk cx.n o.dst) (ho : o.op = .indexAddr t y z) (hy : getT ts y = some p)
    (hz : getT ts z = some (.d (.int k n))) (h : iaV cx.P t p n fun x => K ⟨x, [], [], []⟩) : ∃ e, LocOp cx n0 ts hs o e ∧ K e := by
  obtain ⟨hok, h⟩ := h
  have int : ∀ {w S μ v}, Rep w S μ (.d (.int k n)) v → v = .int k n := by intro w S μ v h; cases h with | d h => cases h; rfl
  cases he1 : (TL cx.P t).selem with
  | some e =>
    simp only [he1] at h
    obtain ⟨heok, h⟩ := h
    obtain ⟨i, _, hi, _, hsz, _⟩ := TL_ok heok
    have hu := TL_selem hok he1
    cases p with
    | d x =>
      cases x with
      | sl rows =>
        obtain ⟨h0, r, hr, hrl, hK⟩ := h
        refine ⟨_, loc_val hd fun H T μ a w hr' he _ => ?_, hK⟩
        have h4 := he y _ (by simp [Op.operands, ho]) hy
        have h5 := int (he z _ (by simp [Op.operands, ho]) hz)
        generalize hv : a.eval y = v at h4
        have hlt : n.toNat < rows.length := (List.getElem?_eq_some_iff.1 hr).1
        cases h4 with
        | d h4 =>
          cases h4 with
          | nil => simp at hlt
          | sl f hS hc hs2 hcell hrep =>
            rename_i b off c sz
            refine ⟨_, ?_, .dp (b := b) (off := off + n.toNat * sz) (fun j => f n.toNat j) hS (fun j x hx => hcell _ j r x hr hx) (fun j x hx => hrep _ j r x hr hx)⟩
            have := hs2 _ _ hr
            have e4 : i.size = sz := by omega
            simp only [execOp, ho, hv, h5]
            rw [← e4]; exact run_v (run_indexAt_sl w t e i hu hi b off rows.length c k n h0 (by omega))
      | _ => exact h.elim
    | row j sz o' len =>
      obtain ⟨e2, h0, h1, hK⟩ := h
      refine ⟨_, loc_val hd fun H T μ a w hr' he _ => ?_, hK⟩
      have h4 := he y _ (by simp [Op.operands, ho]) hy
      have h5 := int (he z _ (by simp [Op.operands, ho]) hz)
      generalize hv : a.eval y = v at h4
      cases h4 with
      | rowNil _ => simp at h1; omega
      | row hb _ _ _ _ =>
        have e3 : i.size = sz := by omega
        refine ⟨_, ?_, .ep (idx := o' + n.toNat) (k := 0) hb⟩
        simp only [execOp, ho, hv, h5]
        rw [Nat.add_mul, Nat.add_zero, ← e3]; exact run_v (run_indexAt_sl w t e i hu hi _ (o' * i.size) len _ k n h0 h1)
    | sub j sz o' len =>
      obtain ⟨e2, h0, h1, hK⟩ := h
      refine ⟨_, loc_val hd fun H T μ a w hr' he _ => ?_, hK⟩
      have h4 := he y _ (by simp [Op.operands, ho]) hy
      have h5 := int (he z _ (by simp [Op.operands, ho]) hz)
      generalize hv : a.eval y = v at h4
      cases h4 with
      | subNil => simp at h1; omega
      | sub hb _ _ =>
        have e3 : i.size = sz := by omega
        refine ⟨_, ?_, .ep (idx := o' + n.toNat) (k := 0) hb⟩
        simp only [execOp, ho, hv, h5]
        rw [Nat.add_mul, Nat.add_zero, ← e3]; exact run_v (run_indexAt_sl w t e i hu hi _ (o' * i.size) len _ k n h0 h1)
    | _ => exact h.elim
  | none =>
    simp only [he1] at h
    cases he2 : (TL cx.P t).aelem with
    | none => simp [he2] at h
    | some me =>
      obtain ⟨m, e⟩ := me
      simp only [he2] at h
      obtain ⟨heok, h⟩ := h
      obtain ⟨i, _, hi, _, hsz, _⟩ := TL_ok heok
      have hu := TL_aelem hok he2
      cases p with
      | ptr j o' =>
        obtain ⟨h0, h1, hK⟩ := h
        refine ⟨_, loc_val hd fun H T μ a w hr' he _ => ?_, hK⟩
        have h4 := he y _ (by simp [Op.operands, ho]) hy
        have h5 := int (he z _ (by simp [Op.operands, ho]) hz)
        generalize hv : a.eval y = v at h4
        cases h4 with
        | ptr hb =>
          refine ⟨_, ?_, .ptr hb⟩
          simp only [execOp, ho, hv, h5]
          rw [hsz]; exact run_v (run_indexAt_ar w t e m i hu hi _ o' k n h0 h1)
      | ep j sz idx q =>
        cases idx with
        | succ _ => exact h.elim
        | zero =>
          cases q with
          | succ _ => exact h.elim
          | zero =>
            obtain ⟨e2, h0, h1, hK⟩ := h
            refine ⟨_, loc_val hd fun H T μ a w hr' he _ => ?_, hK⟩
            have h4 := he y _ (by simp [Op.operands, ho]) hy
            have h5 := int (he z _ (by simp [Op.operands, ho]) hz)
            generalize hv : a.eval y = v at h4
            cases h4 with
            | ep hb =>
              refine ⟨_, ?_, .ep (idx := n.toNat) (k := 0) hb⟩
              have e3 : i.size = sz := by omega
              simp only [execOp, ho, hv, h5]
              rw [← e3]; have hh := run_indexAt_ar w t e m i hu hi ‹Nat› (0 * i.size + 0) k n h0 h1; rw [Nat.zero_mul, Nat.zero_add, Nat.zero_add] at hh; simp only [Nat.zero_mul, Nat.add_zero]; exact run_v hh
      | _ => exact h.elim
end Go.Proofs.Ytokocigmchfdfaa
