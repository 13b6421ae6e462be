/- Engine, part B: abstract states, what an operation does to them, and that it does so whatever the world. -/
import Derived.Test.YtokocigmchfdfaaEngA
import Derived.Laws.CopyRow
import Derived.Laws.Slices
set_option linter.unusedSimpArgs false
set_option linter.unusedVariables false
namespace Go.Proofs.Ytokocigmchfdfaa
open Go.RowKit

def avOf : Value → Option AV
  | .int k n => some (.d (.int k n))
  | .bool b => some (.d (.bool b))
  | .slice none 0 0 => some .nil
  | .pointer none => some .nilp
  | _ => none

theorem avOf_rep {v : Value} {x : AV} (h : avOf v = some x) (w : World) (S : Nat → Prop) (μ : Mu) : Rep w S μ x v ∧ v.oneCell' = true := by
  unfold avOf at h
  split at h <;> first | (injection h with h; subst h) | (cases h)
  · exact ⟨.d .int, rfl⟩
  · exact ⟨.d .bool, rfl⟩
  · exact ⟨.nil, rfl⟩
  · exact ⟨.nilp, rfl⟩

/-- what the engine knows of a type -/
structure TInfo where
  ok : Bool := false
  size : Nat := 0
  bytes : Nat := 0
  agg : Bool := false
  ik : Option IntKind := none
  ofs : List Nat := []
  osz : List Nat := []
  oagg : List (Option Bool) := []
  pls : Option (List (Nat × Nat)) := none
  selem : Option TypeId := none
  aelem : Option (Nat × TypeId) := none
  zero : Option (List AV) := none

def aggD : TypeDesc → Bool
  | .struct _ | .array _ _ => true
  | _ => false

def tagg (P : Program) (t : TypeId) : Option Bool := (P.underlying t).map aggD

def TL (P : Program) (t : TypeId) : TInfo := match P.info? t, P.underlying t with
  | some i, some d => {
      ok := true, size := i.size, bytes := i.bytes, agg := aggD d,
      ik := (match d with | .int k => some k | _ => none),
      ofs := (match d with | .struct fs => fs.toList.map (·.offset) | _ => []),
      osz := (match d with | .struct fs => fs.toList.map (fun f => P.cellsOf f.type) | _ => []),
      oagg := (match d with | .struct fs => fs.toList.map (fun f => tagg P f.type) | _ => []),
      pls := (match d with | .struct fs => fs.toList.mapM (fun f => (P.info? f.type).map fun i => (f.offset, i.size)) | _ => none),
      selem := (match d with | .slice e => some e | _ => none),
      aelem := (match d with | .array n e => some (n, e) | _ => none),
      zero := i.zero.bind fun z => z.cells.toList.mapM avOf }
  | _, _ => {}

theorem TL_ok {P : Program} {t : TypeId} (h : (TL P t).ok = true) : ∃ i d, P.info? t = some i ∧ P.underlying t = some d ∧ (TL P t).size = i.size ∧ (TL P t).agg = aggD d ∧ (TL P t).bytes = i.bytes := by
  unfold TL at *
  cases h1 : P.info? t with
  | none => simp [h1] at h
  | some i =>
    cases h2 : P.underlying t with
    | none => simp [h1, h2] at h
    | some d => exact ⟨i, d, rfl, rfl, rfl, rfl, rfl⟩

structure St where
  t : List (Nat × AV)
  h : List (Option Ob)

def look : List (Nat × AV) → Nat → Option AV
  | [], _ => none
  | (k, x) :: l, s => if s = k then some x else look l s

def St.T (σ : St) (s : Nat) : Option AV := look σ.t s
def St.H (σ : St) (i : Nat) : Option Ob := (σ.h[i]?).join

def getT (T : Nat → Option AV) : Operand → Option AV
  | .tmp t => T t
  | .const v => avOf v
  | .func f => some (.fn f [])
  | .global _ => none

structure Eff where
  val : AV
  news : List Ob := []
  wr : List (Nat × Option Ob) := []
  rd : List Nat := []

def Eff.wlook (e : Eff) (i : Nat) : Option (Option Ob) := (e.wr.find? (fun p => p.1 == i)).map (·.2)
def appH (n0 : Nat) (e : Eff) (H : Nat → Option Ob) (i : Nat) : Option Ob :=
  if n0 ≤ i ∧ i < n0 + e.news.length then e.news[i - n0]? else match e.wlook i with | some x => x | none => H i
def appT (dst : Option Tmp) (x : AV) (T : Nat → Option AV) (s : Nat) : Option AV := if dst = some s then some x else T s

def Operand.t? : Operand → Option Tmp
  | .tmp t => some t
  | _ => none

/-- What an operation does wherever the slots that it looks at and the objects that it touches are as they are here. -/
def LocOp (cx : Cx) (n0 : Nat) (ts : Nat → Option AV) (hs : Nat → Option Ob) (o : Oper) (e : Eff) : Prop :=
  ∀ (H : Nat → Option Ob) (T : Nat → Option AV) (μ : Mu) (a : Act) (w : World) (K : Act → World → Prop) (Q : Exit → Act → World → Prop), RR cx H T μ a w →
    (∀ t, Operand.tmp t ∈ o.op.operands → T t = ts t) → (∀ i, (i ∈ e.rd ∨ i ∈ e.wr.map (·.1)) → H i = hs i) → (∀ k, k < e.news.length → μ (n0 + k) = none) →
    (∀ a' w' μ', RR cx (appH n0 e H) (appT o.dst e.val T) μ' a' w' → (∀ i x, μ i = some x → μ' i = some x) → (∀ i, μ' i ≠ none → μ i ≠ none ∨ (n0 ≤ i ∧ i < n0 + e.news.length)) → K a' w') →
    o.wp cx.P a w K Q

def dstOk (n : Nat) : Option Tmp → Prop
  | some d => d < n
  | none => True

theorem RR.eval {cx : Cx} {H : Nat → Option Ob} {T : Nat → Option AV} {μ : Mu} {a : Act} {w : World} (h : RR cx H T μ a w) {ts : Nat → Option AV} {x : Operand} {y : AV}
    (hT : ∀ t, x = .tmp t → T t = ts t) (hx : getT ts x = some y) : Rep w (cx.Sta H μ w) μ y (a.eval x) := by
  cases x with
  | tmp t =>
    obtain ⟨v, h1, h2⟩ := h.tm t y ((hT t rfl).trans hx)
    have : a.eval (.tmp t) = v := by simp [Act.eval, h1]
    rw [this]; exact h2
  | const v => exact (avOf_rep hx w _ μ).1
  | global g => cases hx
  | func f => injection hx with hx; subst hx; exact .fn (by simp) (by simp)

theorem appH_id (n0 : Nat) (H : Nat → Option Ob) (x : AV) (rd : List Nat) : appH n0 ⟨x, [], [], rd⟩ H = H := by
  funext i; simp [appH, Eff.wlook]; omega

theorem RR.putD {cx : Cx} {H : Nat → Option Ob} {T : Nat → Option AV} {μ : Mu} {a : Act} {w : World} (h : RR cx H T μ a w) {d : Option Tmp} {x : AV} {v : Value} (hd : dstOk cx.n d) (hr : Rep w (cx.Sta H μ w) μ x v) :
    RR cx H (appT d x T) μ (a.put d v) w := by
  cases d with
  | none =>
    have : appT none x T = T := by funext s; simp [appT]
    rw [this]; exact h
  | some d =>
    have : appT (some d) x T = fun s => if s = d then some x else T s := by
      funext s; simp only [appT, Option.some.injEq]
      by_cases hs : s = d
      · simp [hs]
      · simp [hs, Ne.symm hs]
    rw [this]; exact h.put hd hr

/-- an operation that leaves the world alone and yields a value -/
theorem loc_val {cx : Cx} {n0 : Nat} {ts : Nat → Option AV} {hs : Nat → Option Ob} {o : Oper} {x : AV} {rd : List Nat} (hd : dstOk cx.n o.dst)
    (h : ∀ (H : Nat → Option Ob) (T : Nat → Option AV) (μ : Mu) (a : Act) (w : World), RR cx H T μ a w → (∀ y z, y ∈ o.op.operands → getT ts y = some z → Rep w (cx.Sta H μ w) μ z (a.eval y)) → (∀ i, i ∈ rd → H i = hs i) →
      ∃ v, (execOp a.eval o).run cx.P w = .ok (.value v) w ∧ Rep w (cx.Sta H μ w) μ x v) : LocOp cx n0 ts hs o ⟨x, [], [], rd⟩ := by
  intro H T μ a w K Q hr hT hH _ hK
  obtain ⟨v, h1, h2⟩ := h H T μ a w hr (fun y z hy hz => hr.eval (fun t ht => hT t (ht ▸ hy)) hz) (fun i hi => hH i (.inl hi))
  unfold Oper.wp
  rw [h1]
  refine hK _ _ μ ?_ (fun _ _ h => h) (fun i hi => .inl hi)
  rw [appH_id]
  exact hr.putD hd h2

/-! ### move, assign, extract, pick -/
def withV (o : Option AV) (K : AV → Prop) : Prop := ∃ x, o = some x ∧ K x

theorem loc_move {cx : Cx} {n0 : Nat} {ts : Nat → Option AV} {hs : Nat → Option Ob} {o : Oper} {y : Operand} {x : AV} (hd : dstOk cx.n o.dst) (ho : o.op = .move y ∨ o.op = .assign y) (hx : getT ts y = some x) :
    LocOp cx n0 ts hs o ⟨x, [], [], []⟩ := by
  refine loc_val hd fun H T μ a w hr he _ => ⟨a.eval y, ?_, he y x ?_ hx⟩
  · rcases ho with ho | ho <;> simp [execOp, ho]
  · rcases ho with ho | ho <;> simp [Op.operands, ho]

theorem loc_extract {cx : Cx} {n0 : Nat} {ts : Nat → Option AV} {hs : Nat → Option Ob} {o : Oper} {y : Operand} {k : Nat} {xs : List AV} {x : AV} (hd : dstOk cx.n o.dst) (ho : o.op = .extract y k) (hx : getT ts y = some (.tup xs)) (hk : xs[k]? = some x) :
    LocOp cx n0 ts hs o ⟨x, [], [], []⟩ := by
  refine loc_val hd fun H T μ a w hr he _ => ?_
  have h1 := he y _ (by simp [Op.operands, ho]) hx
  generalize hv : a.eval y = v at h1
  cases h1 with
  | tup hsz hrep =>
    rename_i vs
    have hlt : k < vs.size := by rw [hsz]; exact (List.getElem?_eq_some_iff.1 hk).1
    refine ⟨vs[k], ?_, hrep k x vs[k] hk (by simp [hlt])⟩
    simp [execOp, ho, hv, Instr.extract, hlt]

theorem loc_pick {cx : Cx} {n0 : Nat} {ts : Nat → Option AV} {hs : Nat → Option Ob} {o : Oper} {c y z : Operand} {b : Bool} {x : AV} (hd : dstOk cx.n o.dst) (ho : o.op = .pick c y z) (hc : getT ts c = some (.d (.bool b)))
    (hx : getT ts (if b then y else z) = some x) : LocOp cx n0 ts hs o ⟨x, [], [], []⟩ := by
  refine loc_val hd fun H T μ a w hr he _ => ?_
  have h1 := he c _ (by simp [Op.operands, ho]) hc
  generalize hv : a.eval c = v at h1
  cases h1 with
  | d h1 =>
    cases h1
    refine ⟨a.eval (if b then y else z), ?_, he _ x (by cases b <;> simp [Op.operands, ho]) hx⟩
    cases b <;> simp [execOp, ho, hv, asBool]

end Go.Proofs.Ytokocigmchfdfaa
