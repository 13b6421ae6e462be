/- Engine, part I: slicing and append. -/
import Derived.Test.YtokocigmchfdfaaEngH
set_option linter.unusedSimpArgs false
set_option linter.unusedVariables false
namespace Go.Proofs.Ytokocigmchfdfaa
open Go.RowKit

/-! ### slicing -/
def optI (ts : Nat → Option AV) (x : Option Operand) (dflt : Int) (K : Int → Prop) : Prop :=
  match x with
  | none => K dflt
  | some y => match getT ts y with
    | some (.d (.int _ n)) => K n
    | _ => False

def sliV (P : Program) (t : TypeId) (x : AV) (ts : Nat → Option AV) (lo hi : Option Operand) (K : AV → Prop) : Prop :=
  (TL P t).ok = true ∧
  match (TL P t).selem with
  | some e => (TL P e).ok = true ∧
    (match x with
      | .d (.sl rows) => optI ts lo 0 fun l => optI ts hi rows.length fun h => 0 ≤ l ∧ l ≤ h ∧ h ≤ rows.length ∧ (∀ r ∈ rows, r.length = (TL P e).size) ∧ K (.d (.sl ((rows.drop l.toNat).take (h.toNat - l.toNat))))
      | .row i sz o len => (match lo with
        | none => optI ts hi len fun h => 0 ≤ h ∧ h ≤ len ∧ K (.row i sz o h.toNat)
        | some _ => optI ts lo 0 fun l => optI ts hi len fun h => sz = (TL P e).size ∧ 0 ≤ l ∧ l ≤ h ∧ h ≤ len ∧ K (.sub i sz (o + l.toNat) (h.toNat - l.toNat)))
      | .sub i sz o len => optI ts lo 0 fun l => optI ts hi len fun h => sz = (TL P e).size ∧ 0 ≤ l ∧ l ≤ h ∧ h ≤ len ∧ K (.sub i sz (o + l.toNat) (h.toNat - l.toNat))
      | .nil => optI ts lo 0 fun l => optI ts hi 0 fun h => l = 0 ∧ h = 0 ∧ K .nil
      | _ => False)
  | none => match (TL P t).aelem with
    | some (m, e) => (TL P e).ok = true ∧ (match x with
      | .ep i sz 0 0 => sz = (TL P e).size ∧ lo = none ∧ hi = none ∧ m ≤ maxLen ∧ K (.sub i sz 0 m)
      | .ptr i 0 => lo = none ∧ hi = none ∧ m ≤ maxLen ∧ K (.sub i (TL P e).size 0 m)
      | _ => False)
    | none => False

/-- what the bounds' operands read as, in every world -/
def OptOk (a : Act) (x : Option Operand) (dflt n : Int) : Prop :=
  match x with
  | none => n = dflt
  | some y => ∃ k, a.eval y = .int k n

theorem optI_ok {cx : Cx} {o : Oper} {ts : Nat → Option AV} {x : Option Operand} {dflt : Int} {K : Int → Prop} (h : optI ts x dflt K) (hm : ∀ y, x = some y → y ∈ o.op.operands) :
    ∃ n, K n ∧ ∀ (H : Nat → Option Ob) (μ : Mu) (a : Act) (w : World), (∀ y z, y ∈ o.op.operands → getT ts y = some z → Rep w (cx.Sta H μ w) μ z (a.eval y)) → OptOk a x dflt n := by
  cases x with
  | none => exact ⟨dflt, h, fun _ _ _ _ _ => rfl⟩
  | some y =>
    simp only [optI] at h
    split at h
    · rename_i k n hg
      refine ⟨n, h, fun H μ a w he => ?_⟩
      have := he y _ (hm y rfl) hg
      generalize hv : a.eval y = v at this
      cases this with | d this => cases this; exact ⟨k, hv⟩
    · exact h.elim

theorem run_sliceB {P : Program} (w : World) (a : Act) (lo hi : Option Operand) (l h : Int) (len cap : Nat) (hl : OptOk a lo 0 l) (hh : OptOk a hi len h) (h0 : 0 ≤ l) (h1 : l ≤ h) (h2 : h ≤ len) (hc : len ≤ cap) :
    (Instr.sliceBounds true len cap (lo.map a.eval) (hi.map a.eval) none).run P w = .ok (l.toNat, h.toNat, cap) w := by
  have sb : ∀ (k : IntKind) (i : Int) (y : Nat) (code : BoundsCode), 0 ≤ i → i ≤ y → (Instr.sliceBound (.int k i) y code).run P w = .ok i.toNat w := fun k i y code a b => run_sliceBound w k i y code a b
  unfold Instr.sliceBounds
  cases lo with
  | none =>
    simp only [OptOk] at hl; subst hl
    cases hi with
    | none => simp only [OptOk] at hh; subst hh; simp
    | some y => obtain ⟨k, hk⟩ := hh; simp [hk, sb k h cap _ (by omega) (by omega)]
  | some x =>
    obtain ⟨k', hk'⟩ := hl
    cases hi with
    | none => simp only [OptOk] at hh; subst hh; simp [hk', sb k' l len _ h0 h1]
    | some y =>
      obtain ⟨k, hk⟩ := hh
      have : l ≤ (h.toNat : Int) := by omega
      simp [hk, hk', sb k h cap _ (by omega) (by omega), sb k' l h.toNat _ h0 this]

theorem run_sliceS {P : Program} (w : World) (t e : TypeId) (i : TypeInfo) (hu : P.underlying t = some (.slice e)) (hi : P.info? e = some i) (A : Option Addr) (len cap : Nat) (a : Act) (lo hi' : Option Operand) (l h : Int)
    (hl : OptOk a lo 0 l) (hh : OptOk a hi' len h) (h0 : 0 ≤ l) (h1 : l ≤ h) (h2 : h ≤ len) (hc : len ≤ cap) :
    (Instr.sliceAt t (.slice A len cap) (lo.map a.eval) (hi'.map a.eval) (none : Option Value)).run P w = .ok (.slice (if cap = l.toNat then A else A.map (·.add (l.toNat * i.size))) (h.toNat - l.toNat) (cap - l.toNat)) w := by
  have hb := run_sliceB (P := P) w a lo hi' l h len cap hl hh h0 h1 h2 hc
  simp [Instr.sliceAt, run_underlying hu, Instr.slice, hb, sizeOf, typeInfo, hi]

theorem RepD.sub {w : World} {S : Nat → Prop} {rows : List (List D)} {A : Option Addr} {c l n sz : Nat} (h : RepD w S (.sl rows) (.slice A rows.length c)) (hsz : ∀ r ∈ rows, r.length = sz) (hln : l + n ≤ rows.length) :
    RepD w S (.sl ((rows.drop l).take n)) (.slice (if c = l then A else A.map (·.add (l * sz))) n (c - l)) := by
  rcases Nat.eq_zero_or_pos n with rfl | hn
  · simpa using RepD.nil
  · generalize hv : Value.slice A rows.length c = v at h
    cases h with
    | nil => simp at hln; omega
    | sl f hS hc hs2 hcell hrep =>
      rename_i b off c' sz'
      simp only [Value.slice.injEq] at hv
      obtain ⟨rfl, _, rfl⟩ := hv
      have hne : rows ≠ [] := by rintro rfl; simp at hln; omega
      have e : sz' = sz := by
        have h0 : 0 < rows.length := by omega
        have := hs2 0 rows[0] (List.getElem?_eq_getElem h0)
        rw [← this]; exact hsz _ (List.getElem_mem h0)
      subst e
      have hcl : ¬ c = l := by omega
      have hlen : ((rows.drop l).take n).length = n := by simp; omega
      have get : ∀ (p : Nat) (r : List D), ((rows.drop l).take n)[p]? = some r → rows[l + p]? = some r := by
        intro p r hp
        rw [List.getElem?_take] at hp
        split at hp
        · rwa [List.getElem?_drop] at hp
        · cases hp
      rw [if_neg hcl]
      simp only [Option.map_some, Addr_add]
      have := RepD.sl (w := w) (S := S) (rows := (rows.drop l).take n) (b := b) (off := off + l * sz') (c := c - l) (sz := sz') (fun p j => f (l + p) j) hS (by omega) (fun p r hp => hs2 _ r (get p r hp))
        (fun p j r x hp hj => by
          have := hcell (l + p) j r x (get p r hp) hj
          rw [Nat.add_mul] at this
          have e : off + l * sz' + p * sz' + j = off + (l * sz' + p * sz') + j := by omega
          rw [e]; exact this)
        (fun p j r x hp hj => hrep (l + p) j r x (get p r hp) hj)
      rw [hlen] at this
      exact this

theorem loc_slice {cx : Cx} {n0 : Nat} {ts : Nat → Option AV} {hs : Nat → Option Ob} {o : Oper} {t : TypeId} {y : Operand} {lo hi : Option Operand} {x : AV} {K : Eff → Prop} (hd : dstOk cx.n o.dst) (ho : o.op = .slice t y lo hi none) (hy : getT ts y = some x)
    (h : sliV cx.P t x ts lo hi fun x => K ⟨x, [], [], []⟩) : ∃ e, LocOp cx n0 ts hs o e ∧ K e := by
  obtain ⟨hok, h⟩ := h
  have hmy : y ∈ o.op.operands := by simp [Op.operands, ho]
  have hml : ∀ q, lo = some q → q ∈ o.op.operands := by rintro q rfl; simp [Op.operands, ho]
  have hmh : ∀ q, hi = some q → q ∈ o.op.operands := by rintro q rfl; simp [Op.operands, ho]
  cases hse : (TL cx.P t).selem with
  | some e =>
    simp only [hse] at h
    obtain ⟨heok, h⟩ := h
    have hu := TL_selem hok hse
    obtain ⟨i, _, h1, _, hsz, _⟩ := TL_ok heok
    cases x with
    | d x =>
      cases x with
      | sl rows =>
        simp only at h
        obtain ⟨l, h, hl⟩ := optI_ok (cx := cx) h hml
        obtain ⟨hh, h, hh'⟩ := optI_ok (cx := cx) h hmh
        obtain ⟨a0, a1, a2, a3, hK⟩ := h
        refine ⟨_, loc_val hd fun H T μ a w hr he _ => ?_, hK⟩
        have e1 := he y _ hmy hy
        generalize hv : a.eval y = v at e1
        cases e1 with
        | d e1 =>
          have hform : ∃ A c, v = .slice A rows.length c ∧ rows.length ≤ c := by
            cases e1 with
            | nil => exact ⟨_, _, rfl, by simp⟩
            | sl _ _ hc _ _ _ => exact ⟨_, _, rfl, hc⟩
          obtain ⟨A, c, rfl, hc⟩ := hform
          refine ⟨_, ?_, .d (RepD.sub (sz := (TL cx.P e).size) (l := l.toNat) (n := hh.toNat - l.toNat) e1 a3 (by omega))⟩
          simp only [execOp, ho, hv, hsz]
          exact run_v (run_sliceS w t e i hu h1 A rows.length c a lo hi l hh (hl H μ a w he) (hh' H μ a w he) a0 a1 a2 hc)
      | _ => exact h.elim
    | row j sz o' len =>
      simp only at h
      cases lo with
      | none =>
        simp only at h
        obtain ⟨hh, h, hh'⟩ := optI_ok (cx := cx) h hmh
        obtain ⟨a0, a1, hK⟩ := h
        refine ⟨_, loc_val hd fun H T μ a w hr he _ => ?_, hK⟩
        have e1 := he y _ hmy hy
        generalize hv : a.eval y = v at e1
        cases e1 with
        | rowNil hb =>
          have e2 : hh.toNat = 0 := by omega
          rw [e2]
          refine ⟨.slice none 0 0, ?_, .rowNil hb⟩
          simp only [execOp, ho, hv]
          have := run_sliceS w t e i hu h1 none 0 0 a none hi 0 hh rfl (hh' H μ a w he) (Int.le_refl _) a0 (by omega) (Nat.le_refl _)
          simp [e2] at this
          exact run_v this
        | row hb h2 h3 h4 h5 =>
          rename_i b c arr tt
          refine ⟨.slice (some ⟨b, o' * sz, none⟩) hh.toNat c, ?_, .row hb h2 (by omega) h4 h5⟩
          simp only [execOp, ho, hv]
          have := run_sliceS w t e i hu h1 (some ⟨b, o' * sz, none⟩) len c a none hi 0 hh rfl (hh' H μ a w he) (Int.le_refl _) a0 a1 h3
          simp [Addr_add] at this
          exact run_v this
      | some lo =>
        simp only at h
        obtain ⟨l, h, hl⟩ := optI_ok (cx := cx) h hml
        obtain ⟨hh, h, hh'⟩ := optI_ok (cx := cx) h hmh
        obtain ⟨e3, a0, a1, a2, hK⟩ := h
        refine ⟨_, loc_val hd fun H T μ a w hr he _ => ?_, hK⟩
        have e1 := he y _ hmy hy
        generalize hv : a.eval y = v at e1
        cases e1 with
        | rowNil hb =>
          have e2 : hh.toNat - l.toNat = 0 := by omega
          have := run_sliceS w t e i hu h1 none 0 0 a (some lo) hi l hh (hl H μ a w he) (hh' H μ a w he) a0 a1 a2 (Nat.le_refl _)
          rw [e2] at this ⊢
          exact ⟨_, by simp only [execOp, ho, hv]; exact run_v this, .subNil⟩
        | row hb h2 h3 h4 h5 =>
          rename_i b c arr tt
          have hrun := run_sliceS w t e i hu h1 (some ⟨b, o' * sz, none⟩) len c a (some lo) hi l hh (hl H μ a w he) (hh' H μ a w he) a0 a1 a2 h3
          rcases Nat.eq_zero_or_pos (hh.toNat - l.toNat) with e2 | e2
          · rw [e2] at hrun ⊢
            exact ⟨_, by simp only [execOp, ho, hv]; exact run_v hrun, .subNil⟩
          · rw [if_neg (by omega)] at hrun
            simp only [Option.map_some, Addr_add] at hrun
            refine ⟨_, by simp only [execOp, ho, hv]; exact run_v hrun, ?_⟩
            have e4 : o' * sz + l.toNat * i.size = (o' + l.toNat) * sz := by rw [Nat.add_mul, e3, hsz]
            rw [e4]
            exact .sub hb (by omega) (by omega)
    | sub j sz o' len =>
      simp only at h
      obtain ⟨l, h, hl⟩ := optI_ok (cx := cx) h hml
      obtain ⟨hh, h, hh'⟩ := optI_ok (cx := cx) h hmh
      obtain ⟨e3, a0, a1, a2, hK⟩ := h
      refine ⟨_, loc_val hd fun H T μ a w hr he _ => ?_, hK⟩
      have e1 := he y _ hmy hy
      generalize hv : a.eval y = v at e1
      cases e1 with
      | @subNil _ _ _ A c =>
        have e2 : hh.toNat - l.toNat = 0 := by omega
        have := run_sliceS w t e i hu h1 A 0 c a lo hi l hh (hl H μ a w he) (hh' H μ a w he) a0 a1 a2 (Nat.zero_le _)
        rw [e2] at this ⊢
        exact ⟨_, by simp only [execOp, ho, hv]; exact run_v this, .subNil⟩
      | sub hb h3 h4 =>
        rename_i b c
        have hrun := run_sliceS w t e i hu h1 (some ⟨b, o' * sz, none⟩) len c a lo hi l hh (hl H μ a w he) (hh' H μ a w he) a0 a1 a2 h3
        rcases Nat.eq_zero_or_pos (hh.toNat - l.toNat) with e2 | e2
        · rw [e2] at hrun ⊢
          exact ⟨_, by simp only [execOp, ho, hv]; exact run_v hrun, .subNil⟩
        · rw [if_neg (by omega)] at hrun
          simp only [Option.map_some, Addr_add] at hrun
          refine ⟨_, by simp only [execOp, ho, hv]; exact run_v hrun, ?_⟩
          have e4 : o' * sz + l.toNat * i.size = (o' + l.toNat) * sz := by rw [Nat.add_mul, e3, hsz]
          rw [e4]
          exact .sub hb (by omega) (by omega)
    | nil =>
      simp only at h
      obtain ⟨l, h, hl⟩ := optI_ok (cx := cx) h hml
      obtain ⟨hh, h, hh'⟩ := optI_ok (cx := cx) h hmh
      obtain ⟨rfl, rfl, hK⟩ := h
      refine ⟨_, loc_val hd fun H T μ a w hr he _ => ?_, hK⟩
      have e1 := he y _ hmy hy
      generalize hv : a.eval y = v at e1
      cases e1 with
      | nil =>
        refine ⟨.slice none 0 0, ?_, .nil⟩
        simp only [execOp, ho, hv]
        have := run_sliceS w t e i hu h1 none 0 0 a lo hi 0 0 (hl H μ a w he) (by simpa using hh' H μ a w he) (Int.le_refl _) (Int.le_refl _) (by omega) (Nat.le_refl _)
        simp at this
        exact run_v this
    | _ => exact h.elim
  | none =>
    simp only [hse] at h
    cases hae : (TL cx.P t).aelem with
    | none => simp [hae] at h
    | some me =>
      obtain ⟨m, e⟩ := me
      simp only [hae] at h
      obtain ⟨heok, h⟩ := h
      have hu := TL_aelem hok hae
      obtain ⟨i, _, h1, _, hsz, _⟩ := TL_ok heok
      cases x with
      | ep j sz idx q =>
        cases idx with
        | succ _ => exact h.elim
        | zero =>
          cases q with
          | succ _ => exact h.elim
          | zero =>
            obtain ⟨e3, rfl, rfl, hm, hK⟩ := h
            refine ⟨_, loc_val hd fun H T μ a w hr he _ => ?_, hK⟩
            have e1 := he y _ hmy hy
            generalize hv : a.eval y = v at e1
            cases e1 with
            | ep hb =>
              rename_i b
              have := Rep.sub (w := w) (S := cx.Sta H μ w) (μ := μ) (i := j) (sz := sz) (o := 0) (len := m) (c := m) hb (Nat.le_refl _) hm
              refine ⟨_, ?_, this⟩
              simp only [execOp, ho, hv]
              refine run_v ?_
              simp [Instr.sliceAt, run_underlying hu, Instr.sureAddr, Instr.sliceBounds, sizeOf, typeInfo, h1, Addr.add]
      | ptr j q =>
        cases q with
        | succ _ => exact h.elim
        | zero =>
          obtain ⟨rfl, rfl, hm, hK⟩ := h
          refine ⟨_, loc_val hd fun H T μ a w hr he _ => ?_, hK⟩
          have e1 := he y _ hmy hy
          generalize hv : a.eval y = v at e1
          cases e1 with
          | ptr hb =>
            rename_i b
            have := Rep.sub (w := w) (S := cx.Sta H μ w) (μ := μ) (i := j) (sz := (TL cx.P e).size) (o := 0) (len := m) (c := m) hb (Nat.le_refl _) hm
            refine ⟨_, ?_, this⟩
            simp only [execOp, ho, hv]
            refine run_v ?_
            simp [Instr.sliceAt, run_underlying hu, Instr.sureAddr, Instr.sliceBounds, sizeOf, typeInfo, h1, Addr.add]
      | _ => exact h.elim
end Go.Proofs.Ytokocigmchfdfaa
