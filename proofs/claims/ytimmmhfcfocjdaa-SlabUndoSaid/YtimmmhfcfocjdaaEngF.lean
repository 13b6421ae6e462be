/- Engine, part F: contracts of functions, and the call. -/
import Derived.Test.YtimmmhfcfocjdaaEngE
set_option linter.unusedSimpArgs false
set_option linter.unusedVariables false
namespace Go.Proofs.Ytimmmhfcfocjdaa
open Go.RowKit

mutual
def AV.ren (ρ : Nat → Nat) : AV → AV
  | .d x => .d x
  | .ptr i off => .ptr (ρ i) off
  | .ep i sz idx k => .ep (ρ i) sz idx k
  | .dp r => .dp r
  | .row i sz o len => .row (ρ i) sz o len
  | .sub i sz o len => .sub (ρ i) sz o len
  | .nil => .nil
  | .nilp => .nilp
  | .fn f caps => .fn f (renL ρ caps)
  | .agg cs => .agg (renL ρ cs)
  | .tup vs => .tup (renL ρ vs)
  | .any => .any
def renL (ρ : Nat → Nat) : List AV → List AV
  | [] => []
  | x :: l => x.ren ρ :: renL ρ l
end

theorem renL_map (ρ : Nat → Nat) : ∀ l : List AV, renL ρ l = l.map (AV.ren ρ)
  | [] => rfl
  | x :: l => by rw [renL, renL_map ρ l]; rfl

theorem Rep.ren {w : World} {S : Nat → Prop} {μ μ2 : Mu} {ρ : Nat → Nat} (hρ : ∀ i y, μ i = some y → μ2 (ρ i) = some y) {x : AV} {v : Value} (h : Rep w S μ x v) : Rep w S μ2 (x.ren ρ) v := by
  induction h with
  | d h => exact .d h
  | ptr h => exact .ptr (hρ _ _ h)
  | ep h => exact .ep (hρ _ _ h)
  | dp f a b c => exact .dp f a b c
  | rowNil h => exact .rowNil (hρ _ _ h)
  | row h1 h2 h3 h4 h5 => exact .row (hρ _ _ h1) h2 h3 h4 h5
  | subNil => exact .subNil
  | sub h1 h2 h3 => exact .sub (hρ _ _ h1) h2 h3
  | nil => exact .nil
  | nilp => exact .nilp
  | fn h1 _ ih =>
    refine .fn (by rw [renL_map]; simp [h1]) (fun j x v hx hv => ?_)
    rw [renL_map, List.getElem?_map] at hx
    cases hc : (‹List AV›)[j]? <;> simp [hc] at hx
    subst hx; exact ih j _ v hc hv
  | agg h1 _ h3 ih =>
    refine .agg (by rw [renL_map]; simp [h1]) (fun j x v hx hv => ?_) h3
    rw [renL_map, List.getElem?_map] at hx
    cases hc : (‹List AV›)[j]? <;> simp [hc] at hx
    subst hx; exact ih j _ v hc hv
  | tup h1 _ ih =>
    refine .tup (by rw [renL_map]; simp [h1]) (fun j x v hx hv => ?_)
    rw [renL_map, List.getElem?_map] at hx
    cases hc : (‹List AV›)[j]? <;> simp [hc] at hx
    subst hx; exact ih j _ v hc hv
  | any => exact .any

def Ob.ren (ρ : Nat → Nat) : Ob → Ob
  | .box t cs => .box t (renL ρ cs)
  | .rows t sz rs => .rows t sz rs

theorem ObRep.ren {w : World} {S : Nat → Prop} {μ μ2 : Mu} {ρ : Nat → Nat} (hρ : ∀ i y, μ i = some y → μ2 (ρ i) = some y) {i : Nat} {o : Ob} (h : ObRep w S μ i o) : ObRep w S μ2 (ρ i) (o.ren ρ) := by
  cases h with
  | box h1 h2 h3 h4 h5 =>
    refine .box (hρ _ _ h1) h2 (by rw [renL_map]; simp [h3]) (fun j x v hx hv => ?_) h5
    rw [renL_map, List.getElem?_map] at hx
    cases hc : (‹List AV›)[j]? <;> simp [hc] at hx
    subst hx; exact (h4 j _ v hc hv).ren hρ
  | rowsNil h1 h2 => exact .rowsNil (hρ _ _ h1) h2
  | rows h1 h2 h3 h4 h5 h6 => exact .rows (hρ _ _ h1) h2 h3 h4 h5 h6

/-- a contract: 'al': results may share memory with the arguments; 'rel': arguments, objects lent, result, objects afterwards (the lent ones first, then new ones) -/
structure Spec where
  al : Bool := false
  rel : List AV → List Ob → AV → List Ob → Prop

def outS (al : Bool) (V : Nat → Prop) (w w' : World) (μ' : Mu) (k : Nat) (b : Nat) : Prop :=
  (al = true ∧ V b) ∨ (w.heap.size ≤ b ∧ b < w'.heap.size ∧ ∀ i, i < k → μ' i ≠ some (some b))

structure Out (P : Program) (al : Bool) (V Bo : Nat → Prop) (μ : Mu) (w : World) (nin : Nat) (res : AV) (outs : List Ob) (v : Value) (w' : World) (μ' : Mu) : Prop where
  ev : Ev w w' Bo
  mu : ∀ i x, μ i = some x → μ' i = some x
  res : Rep w' (outS al V w w' μ' outs.length) μ' res v
  ob : ∀ i o, outs[i]? = some o → ObRep w' (outS al V w w' μ' outs.length) μ' i o
  new : ∀ i b, nin ≤ i → μ' i = some (some b) → w.heap.size ≤ b ∧ b < w'.heap.size
  inj : ∀ i j b, i < outs.length → j < outs.length → μ' i = some (some b) → μ' j = some (some b) → i = j
  lt : ∀ i, outs.length ≤ i → μ' i = none
  le : nin ≤ outs.length

structure In (V Bo : Nat → Prop) (μ : Mu) (w : World) (args : List AV) (ins : List Ob) (vals : Array Value) : Prop where
  vlt : ∀ b, V b → b < w.heap.size ∧ ¬ Bo b
  n : vals.size = args.length
  rep : ∀ (j : Nat) (x : AV) (v : Value), args[j]? = some x → vals[j]? = some v → Rep w V μ x v
  ob : ∀ i o, ins[i]? = some o → ObRep w V μ i o
  bo : ∀ i b, i < ins.length → μ i = some (some b) → Bo b
  bo' : ∀ b, Bo b → ∃ i, i < ins.length ∧ μ i = some (some b)
  inj : ∀ i j b, i < ins.length → j < ins.length → μ i = some (some b) → μ j = some (some b) → i = j
  lt : ∀ i, ins.length ≤ i → μ i = none

def SpecOK (P : Program) (f : FuncId) (s : Spec) : Prop :=
  ∀ (args : List AV) (ins : List Ob) (res : AV) (outs : List Ob), s.rel args ins res outs → ∀ (w : World) (V Bo : Nat → Prop) (μ : Mu) (vals : Array Value), In V Bo μ w args ins vals →
    Calls P f vals w fun e w' => ∃ v μ', e = .returned v ∧ Out P s.al V Bo μ w ins.length res outs v w' μ'

/-! ### arguments handed on as they read -/
def snap1 (H : Nat → Option Ob) (x : AV) (K : AV → List Nat → Prop) : Prop :=
  match x with
  | .d x => K (.d x) []
  | .dp r => K (.dp r) []
  | .nil => K (.d (.sl [])) []
  | .row i sz o len => match H i with
    | some (.rows _ sz' rs) => sz' = sz ∧ o + len ≤ rs.length ∧ K (.d (.sl ((rs.drop o).take len))) [i]
    | _ => False
  | .sub i sz o len => match H i with
    | some (.rows _ sz' rs) => sz' = sz ∧ o + len ≤ rs.length ∧ K (.d (.sl ((rs.drop o).take len))) [i]
    | _ => False
  | _ => False
def snapL (H : Nat → Option Ob) (l : List AV) (K : List AV → List Nat → Prop) : Prop :=
  match l with
  | [] => K [] []
  | x :: l => snap1 H x fun y a => snapL H l fun m b => K (y :: m) (a ++ b)
def snapA (H : Nat → Option Ob) (x : AV) (K : AV → List Nat → Prop) : Prop :=
  match x with
  | .agg cs => snapL H cs fun m a => K (.agg m) a
  | .fn f cs => snapL H cs fun m a => K (.fn f m) a
  | x => snap1 H x K
def snapAs (H : Nat → Option Ob) (l : List AV) (K : List AV → List Nat → Prop) : Prop :=
  match l with
  | [] => K [] []
  | x :: l => snapA H x fun y a => snapAs H l fun m b => K (y :: m) (a ++ b)

section
variable {cx : Cx} {H hs : Nat → Option Ob} {T : Nat → Option AV} {μ : Mu} {a : Act} {w : World}

theorem snap_rows (hr : RR cx H T μ a w) {V' : Nat → Prop} {i sz o len b c : Nat} {t : TypeId} {rs : List (List D)} (hi : H i = some (.rows t sz rs)) (hb : μ i = some (some b)) (hV : ∀ b, cx.Sta H μ w b → V' b) (hVb : V' b)
    (hlen : (((rs.drop o).take len).length = len)) (hc : len ≤ c) (hcm : c ≤ maxLen) : RepD w V' (.sl ((rs.drop o).take len)) (.slice (some ⟨b, o * sz, none⟩) len c) := by
  cases hr.ob i _ hi with
  | rowsNil b1 _ => rw [hb] at b1; cases b1
  | rows b1 b2 b3 b4 b5 b6 =>
    rename_i b' arr
    rw [hb] at b1; injection b1 with b1; injection b1 with b1; subst b1
    have get : ∀ (p : Nat) (r : List D), ((rs.drop o).take len)[p]? = some r → rs[o + p]? = some r := by
      intro p r hp
      rw [List.getElem?_take] at hp
      split at hp
      · rwa [List.getElem?_drop] at hp
      · cases hp
    have hl : .slice (some ⟨b, o * sz, none⟩) len c = Value.slice (some ⟨b, o * sz, none⟩) ((rs.drop o).take len).length c := by rw [hlen]
    rw [hl]
    have cell : ∀ (p j : Nat) (r : List D) (x : D), ((rs.drop o).take len)[p]? = some r → r[j]? = some x → (o + p) * sz + j < arr.size := by
      intro p j r x hp hj
      have h1 := get p r hp
      have h2 : o + p < rs.length := (List.getElem?_eq_some_iff.1 h1).1
      have h3 := b5 _ _ h1
      have h4 : j < sz := by rw [← h3]; exact (List.getElem?_eq_some_iff.1 hj).1
      have : (o + p + 1) * sz ≤ rs.length * sz := Nat.mul_le_mul_right _ h2
      rw [Nat.add_mul, Nat.one_mul] at this; omega
    refine .sl (sz := sz) (fun p j => arr.getD ((o + p) * sz + j) undef) hVb (by rw [hlen]; exact hc) (fun p r hp => b5 _ _ (get p r hp)) (fun p j r x hp hj => ?_) (fun p j r x hp hj => ?_)
    · have hlt := cell p j r x hp hj
      have e : o * sz + p * sz + j = (o + p) * sz + j := by rw [Nat.add_mul]
      rw [e]
      simp [World.cell?, b2, hlt]
    · have hlt := cell p j r x hp hj
      have := b6 (o + p) j r x arr[(o + p) * sz + j] (get p r hp) hj (by simp [hlt])
      have e : arr.getD ((o + p) * sz + j) undef = arr[(o + p) * sz + j] := by simp [hlt]
      rw [e]
      exact this.evolve (Ev.refl w (fun _ => False)) (fun _ h => h.elim) hV

end

/-- x reads as y, if the objects rd are as they are here -/
def Snaps (hs : Nat → Option Ob) (x y : AV) (rd : List Nat) : Prop :=
  ∀ (cx : Cx) (H : Nat → Option Ob) (T : Nat → Option AV) (μ : Mu) (a : Act) (w : World) (V' : Nat → Prop) (v : Value) (μ0 : Mu), RR cx H T μ a w → (∀ b, cx.Sta H μ w b → V' b) → (∀ i, i ∈ rd → H i = hs i) →
    (∀ i b, i ∈ rd → H i ≠ none → μ i = some (some b) → V' b) → Rep w (cx.Sta H μ w) μ x v → Rep w V' μ0 y v

theorem snap1_rep {hs : Nat → Option Ob} {x : AV} {K : AV → List Nat → Prop} (h : snap1 hs x K) : ∃ y rd, K y rd ∧ Snaps hs x y rd := by
  cases x with
  | d x =>
    refine ⟨_, _, h, fun cx H T μ a w V' v μ0 hr hV hH hVr hx => ?_⟩
    cases hx with | d hd => exact .d (hd.evolve (Ev.refl w (fun _ => False)) (fun _ h => h.elim) hV)
  | dp r =>
    refine ⟨_, _, h, fun cx H T μ a w V' v μ0 hr hV hH hVr hx => ?_⟩
    cases hx with
    | dp f hS hc hrep => exact .dp f (hV _ hS) hc (fun j x hj => (hrep j x hj).evolve (Ev.refl w (fun _ => False)) (fun _ h => h.elim) hV)
  | nil =>
    refine ⟨_, _, h, fun cx H T μ a w V' v μ0 hr hV hH hVr hx => ?_⟩
    cases hx with | nil => exact .d .nil
  | row i sz o len =>
    simp only [snap1] at h
    split at h
    · rename_i t' sz' rs hob
      obtain ⟨rfl, hl, hK⟩ := h
      refine ⟨_, _, hK, fun cx H T μ a w V' v μ0 hr hV hH hVr hx => ?_⟩
      cases hx with
      | rowNil h1 => simpa using Rep.d (.nil)
      | row h1 h2 h3 h4 h5 => exact .d (snap_rows hr ((hH i (by simp)).trans hob) h1 hV (hVr i _ (by simp) (by rw [hH i (by simp), hob]; simp) h1) (by simp; omega) h3 h4)
    · exact h.elim
  | sub i sz o len =>
    simp only [snap1] at h
    split at h
    · rename_i t' sz' rs hob
      obtain ⟨rfl, hl, hK⟩ := h
      refine ⟨_, _, hK, fun cx H T μ a w V' v μ0 hr hV hH hVr hx => ?_⟩
      cases hx with
      | subNil => simpa using Rep.d (.nil)
      | sub h1 h3 h4 => exact .d (snap_rows hr ((hH i (by simp)).trans hob) h1 hV (hVr i _ (by simp) (by rw [hH i (by simp), hob]; simp) h1) (by simp; omega) h3 h4)
    · exact h.elim
  | _ => exact h.elim

theorem snapL_rep {hs : Nat → Option Ob} : ∀ {l : List AV} {K : List AV → List Nat → Prop}, snapL hs l K → ∃ m rd, K m rd ∧ m.length = l.length ∧ ∀ (j : Nat) (x y : AV), l[j]? = some x → m[j]? = some y → ∃ rd', (∀ i, i ∈ rd' → i ∈ rd) ∧ Snaps hs x y rd'
  | [], K, h => ⟨[], [], h, rfl, by simp⟩
  | x :: l, K, h => by
    obtain ⟨y, a, h, h1⟩ := snap1_rep h
    obtain ⟨m, b, h, h2, h3⟩ := snapL_rep h
    refine ⟨_, _, h, by simp [h2], fun j x' y' hx hy => ?_⟩
    cases j with
    | zero => simp at hx hy; subst hx hy; exact ⟨a, fun i hi => by simp [hi], h1⟩
    | succ j =>
      simp at hx hy
      obtain ⟨rd', u1, u2⟩ := h3 j x' y' hx hy
      exact ⟨rd', fun i hi => by simp [u1 i hi], u2⟩

theorem snapA_rep {hs : Nat → Option Ob} {x : AV} {K : AV → List Nat → Prop} (h : snapA hs x K) : ∃ y rd, K y rd ∧ Snaps hs x y rd := by
  unfold snapA at h
  split at h
  · obtain ⟨m, rd, hK, hl, hm⟩ := snapL_rep h
    refine ⟨_, _, hK, fun cx H T μ a w V' v μ0 hr hV hH hVr hx => ?_⟩
    cases hx with
    | agg h1 h2 h3 =>
      refine .agg (by omega) (fun j y v hy hv => ?_) h3
      have hj : j < m.length := (List.getElem?_eq_some_iff.1 hy).1
      obtain ⟨rd', u1, u2⟩ := hm j _ y (List.getElem?_eq_getElem (hl ▸ hj)) hy
      exact u2 cx H T μ a w V' v μ0 hr hV (fun i hi => hH i (u1 i hi)) (fun i b hi hn hb => hVr i b (u1 i hi) hn hb) (h2 j _ v (List.getElem?_eq_getElem (hl ▸ hj)) hv)
  · obtain ⟨m, rd, hK, hl, hm⟩ := snapL_rep h
    refine ⟨_, _, hK, fun cx H T μ a w V' v μ0 hr hV hH hVr hx => ?_⟩
    cases hx with
    | fn h1 h2 =>
      refine .fn (by omega) (fun j y v hy hv => ?_)
      have hj : j < m.length := (List.getElem?_eq_some_iff.1 hy).1
      obtain ⟨rd', u1, u2⟩ := hm j _ y (List.getElem?_eq_getElem (hl ▸ hj)) hy
      exact u2 cx H T μ a w V' v μ0 hr hV (fun i hi => hH i (u1 i hi)) (fun i b hi hn hb => hVr i b (u1 i hi) hn hb) (h2 j _ v (List.getElem?_eq_getElem (hl ▸ hj)) hv)
  · exact snap1_rep h

theorem snapAs_rep {hs : Nat → Option Ob} : ∀ {l : List AV} {K : List AV → List Nat → Prop}, snapAs hs l K → ∃ m rd, K m rd ∧ m.length = l.length ∧ ∀ (j : Nat) (x y : AV), l[j]? = some x → m[j]? = some y → ∃ rd', (∀ i, i ∈ rd' → i ∈ rd) ∧ Snaps hs x y rd'
  | [], K, h => ⟨[], [], h, rfl, by simp⟩
  | x :: l, K, h => by
    obtain ⟨y, a, h, h1⟩ := snapA_rep h
    obtain ⟨m, b, h, h2, h3⟩ := snapAs_rep h
    refine ⟨_, _, h, by simp [h2], fun j x' y' hx hy => ?_⟩
    cases j with
    | zero => simp at hx hy; subst hx hy; exact ⟨a, fun i hi => by simp [hi], h1⟩
    | succ j =>
      simp at hx hy
      obtain ⟨rd', u1, u2⟩ := h3 j x' y' hx hy
      exact ⟨rd', fun i hi => by simp [u1 i hi], u2⟩

/-! ### the call -/
def gets (ts : Nat → Option AV) : List Operand → Option (List AV)
  | [] => some []
  | x :: l => match getT ts x, gets ts l with
    | some y, some m => some (y :: m)
    | _, _ => none

theorem gets_get {ts : Nat → Option AV} : ∀ {l : List Operand} {m : List AV}, gets ts l = some m → m.length = l.length ∧ ∀ (j : Nat) (x : Operand) (y : AV), l[j]? = some x → m[j]? = some y → getT ts x = some y
  | [], m, h => by simp [gets] at h; subst h; simp
  | x :: l, m, h => by
    simp only [gets] at h
    split at h
    · rename_i y m' h1 h2
      injection h with h; subst h
      obtain ⟨u1, u2⟩ := gets_get h2
      refine ⟨by simp [u1], fun j x' y' hx hy => ?_⟩
      cases j with
      | zero => simp at hx hy; subst hx hy; exact h1
      | succ j => simp at hx hy; exact u2 j x' y' hx hy
    · cases h

/-- what a call makes of the objects here: those that the callee made come to lie at the ids from n0 on -/
def resE (n0 : Nat) (res : AV) (outs : List Ob) (rd : List Nat) : Eff := ⟨res.ren (n0 + ·), outs.map (Ob.ren (n0 + ·)), [], rd⟩

theorem loc_enter {cx : Cx} {n0 : Nat} {ts : Nat → Option AV} {hs : Nat → Option Ob} {o : Oper} {f : FuncId} {s : Spec} {xs ys caps caps' : List AV} {rd rd2 : List Nat} {res : AV} {outs : List Ob} {c : Call} {g : Operand} (hd : dstOk cx.n o.dst)
    (ho : o.op = .call c) (hc : c.callee = .value g) (hg : getT ts g = some (.fn f caps)) (hx : gets ts c.args.toList = some xs)
    (hsn : ys.length = xs.length ∧ ∀ (j : Nat) (x y : AV), xs[j]? = some x → ys[j]? = some y → ∃ rd', (∀ i, i ∈ rd' → i ∈ rd) ∧ Snaps hs x y rd')
    (hcn : caps'.length = caps.length ∧ ∀ (j : Nat) (x y : AV), caps[j]? = some x → caps'[j]? = some y → ∃ rd', (∀ i, i ∈ rd' → i ∈ rd2) ∧ Snaps hs x y rd')
    (hal : s.al = true → rd ++ rd2 = []) (hbody : ∃ fn : Func, cx.P.funcs[f]? = some fn ∧ fn.body.isSome = true ∧ (fn.name == "runtime.NumGoroutine") = false)
    (hok : SpecOK cx.P f s) (hrel : s.rel (ys ++ caps') [] res outs) : LocOp cx n0 ts hs o (resE n0 res outs (rd ++ rd2)) := by
  intro H T μ a w K Q hr hT hH hn hk
  obtain ⟨gl, gg⟩ := gets_get hx
  have hgv := hr.eval (fun t ht => hT t (by simp [Op.operands, ho, Call.operands, hc, ht])) hg
  generalize hgv' : a.eval g = gv at hgv
  cases hgv with
  | fn cs1 cs2 =>
    rename_i vs
    -- the callee's view
    let V' : Nat → Prop := if s.al then cx.Sta H μ w else fun b => b < w.heap.size
    have hV : ∀ b, cx.Sta H μ w b → V' b := by
      intro b hb
      by_cases h : s.al = true
      · simp [V', h, hb]
      · simp [V', h]; exact hr.staLt hb
    have hVlt : ∀ b, V' b → b < w.heap.size := by
      intro b hb
      by_cases h : s.al = true
      · simp [V', h] at hb; exact hr.staLt hb
      · simpa [V', h] using hb
    have hVr : ∀ i b, i ∈ rd ++ rd2 → H i ≠ none → μ i = some (some b) → V' b := by
      intro i b hi hn hb
      by_cases h : s.al = true
      · rw [hal h] at hi; cases hi
      · simp only [V', h]; exact (hr.own i b hn hb).2
    have hin : In V' (fun _ => False) (fun _ => none) w (ys ++ caps') [] (#[] ++ c.args.map a.eval ++ vs) := by
      refine ⟨fun b hb => ⟨hVlt b hb, fun h => h⟩, ?_, fun j y v hy hv => ?_, by simp, by simp, fun _ h => h.elim, by simp, by simp⟩
      · simp; have := hsn.1; have := hcn.1; simp at gl; omega
      · have hsz : c.args.size = xs.length := by simp at gl; omega
        by_cases hj : j < xs.length
        · rw [List.getElem?_append_left (by omega)] at hy
          have hj' : j < c.args.size := by omega
          have hv' : v = a.eval c.args[j] := by
            rw [Array.getElem?_append_left (by simp; omega)] at hv
            simpa [hj'] using hv.symm
          obtain ⟨rd', u1, u2⟩ := hsn.2 j _ y (List.getElem?_eq_getElem hj) hy
          refine u2 cx H T μ a w V' v _ hr hV (fun i hi => hH i (.inl (by simp [resE, u1 i hi]))) (fun i b hi hn hb => hVr i b (by simp [u1 i hi]) hn hb) ?_
          rw [hv']
          exact hr.eval (fun t ht => hT t (by simp [Op.operands, ho, Call.operands, hc, ← ht])) (gg j _ _ (by simp [hj']) (List.getElem?_eq_getElem hj))
        · have hjx : j - ys.length < caps'.length := by
            have := (List.getElem?_eq_some_iff.1 hy).1
            simp at this; omega
          rw [List.getElem?_append_right (by omega)] at hy
          rw [Array.getElem?_append_right (by simp; omega)] at hv
          obtain ⟨rd', u1, u2⟩ := hcn.2 (j - ys.length) _ y (List.getElem?_eq_getElem (by omega)) hy
          refine u2 cx H T μ a w V' v _ hr hV (fun i hi => hH i (.inl (by simp [resE, u1 i hi]))) (fun i b hi hn hb => hVr i b (by simp [u1 i hi]) hn hb) ?_
          have e : j - (#[] ++ c.args.map a.eval).size = j - ys.length := by simp; omega
          rw [e] at hv
          exact cs2 _ _ v (List.getElem?_eq_getElem (by omega)) hv
    have hrun : (execOp a.eval o).run cx.P w = .ok (.enter f (#[] ++ c.args.map a.eval ++ vs)) w := by
      obtain ⟨fn, f1, f2, f3⟩ := hbody
      have f4 : fn.body.isNone = false := by cases hb : fn.body <;> simp_all
      simp only [execOp, ho, resolve, hc, hgv', Deferred.ofValue, invoke, callFunc, Sem.run_bind, Sem.run_pure, Result.andThen_ok, run_program, f1, f3, f4]
      rfl
    unfold Oper.wp
    rw [hrun]
    simp only [Oper.upon]
    refine (hok _ [] res outs hrel w V' (fun _ => False) (fun _ => none) _ hin).mono ?_
    rintro e w' ⟨v, μ', rfl, ho'⟩
    -- the caller's map
    let μ2 : Mu := fun i => if n0 ≤ i ∧ i < n0 + outs.length then μ' (i - n0) else μ i
    have hin2 : ∀ i, n0 ≤ i ∧ i < n0 + outs.length → μ i = none := by
      rintro i ⟨h1, h2⟩
      have := hn (i - n0) (by simp [resE]; omega)
      rwa [Nat.add_sub_cancel' h1] at this
    have hμ : ∀ i x, μ i = some x → μ2 i = some x := by
      intro i x hx
      have : ¬ (n0 ≤ i ∧ i < n0 + outs.length) := fun h => by rw [hin2 i h] at hx; cases hx
      simp only [μ2, if_neg this, hx]
    have hH2 : ∀ i, appH n0 (resE n0 res outs (rd ++ rd2)) H i = if n0 ≤ i ∧ i < n0 + outs.length then (outs[i - n0]?).map (Ob.ren (n0 + ·)) else H i := by
      intro i
      simp only [appH, resE, List.length_map, Eff.wlook, List.getElem?_map, List.find?_nil, Option.map_none]
    have hev : Ev w w' (fun _ => False) := ho'.ev
    have hSta : ∀ b, outS s.al V' w w' μ' outs.length b → cx.Sta (appH n0 (resE n0 res outs (rd ++ rd2)) H) μ2 w' b := by
      intro b hb
      rcases hb with ⟨hal', hb⟩ | ⟨h1, h2, h3⟩
      · have hb' : cx.Sta H μ w b := by simpa [V', hal'] using hb
        have hblt := hr.staLt hb'
        rcases hb' with hv | ⟨u1, u2, u3, u4⟩
        · exact .inl hv
        · refine .inr ⟨u1, Nat.lt_of_lt_of_le u2 hev.size, u3, fun i hi he => ?_⟩
          rw [hH2] at hi
          simp only [μ2] at he
          split at he
          · have := ho'.new (i - n0) b (Nat.zero_le _) he; omega
          · rename_i hni; rw [if_neg hni] at hi; exact u4 i hi he
      · refine .inr ⟨Nat.le_trans hr.fr.size h1, h2, fun hbo => ?_, fun i hi he => ?_⟩
        · have := hr.blt b hbo; have := hr.fr.size; omega
        · rw [hH2] at hi
          simp only [μ2] at he
          split at he
          · rename_i hni; exact h3 (i - n0) (by omega) he
          · rename_i hni; rw [if_neg hni] at hi; have := (hr.own i b hi he).2; omega
    have hren : ∀ i y, μ' i = some y → μ2 (n0 + i) = some y := by
      intro i y hi
      have : i < outs.length := by
        rcases Nat.lt_or_ge i outs.length with h | h
        · exact h
        · rw [ho'.lt i h] at hi; cases hi
      have e : n0 + i - n0 = i := by omega
      simp only [μ2, if_pos (show n0 ≤ n0 + i ∧ n0 + i < n0 + outs.length by omega), e, hi]
    have key := (hr.step (H' := appH n0 (resE n0 res outs (rd ++ rd2)) H) (μ' := μ2) (fun _ => False) hev (fun _ h => h.elim) hμ
      (fun i hi _ => by rw [hH2, if_neg (fun h => hi (hin2 i h))]) (fun _ _ h => h.elim)
      (fun i b h1 h2 => by
        simp only [μ2] at h2
        split at h2
        · exact .inl (ho'.new _ b (Nat.zero_le _) h2)
        · rw [h1] at h2; cases h2)
      (fun i j b h1 h2 h3 h4 => by
        simp only [μ2] at h3 h4
        split at h3
        · split at h4
          · have := ho'.inj (i - n0) (j - n0) b (by omega) (by omega) h3 h4; omega
          · rw [h2] at h4; cases h4
        · rw [h1] at h3; cases h3)
      (fun i ob hor hob => by
        rcases hor with hf | hm
        · exact hf.elim
        · rw [hH2] at hob
          split at hob
          · rename_i hni
            cases hq : outs[i - n0]? with
            | none => simp [hq] at hob
            | some q =>
              simp [hq] at hob
              subst hob
              have := ((ho'.ob (i - n0) q hq).evolve (Ev.refl w' (fun _ => False)) (fun _ h => h.elim) hSta (fun _ _ h => h) (fun _ _ h => h)).ren hren
              rwa [Nat.add_sub_cancel' hni.1] at this
          · exact absurd (hr.ob i ob hob) (fun hr => by cases hr <;> simp_all))).2
    refine hk _ _ μ2 (key.putD hd ?_) hμ (fun i hi => ?_)
    · exact (ho'.res.evolve (Ev.refl w' (fun _ => False)) (fun _ h => h.elim) hSta (fun _ _ h => h)).ren hren
    · by_cases hni : n0 ≤ i ∧ i < n0 + outs.length
      · exact .inr (by simpa [resE] using hni)
      · simp only [μ2, if_neg hni] at hi; exact .inl hi
end Go.Proofs.Ytimmmhfcfocjdaa
