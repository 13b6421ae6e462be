/- Engine, part C: operations that make, read and write memory. -/
import Derived.Test.YtokocigmchfdfaaEngB
set_option linter.unusedSimpArgs false
set_option linter.unusedVariables false
namespace Go.Proofs.Ytokocigmchfdfaa
open Go.RowKit

def setMu (μ : Mu) (n : Nat) (x : Option Nat) : Mu := fun i => if i = n then some x else μ i

theorem heap_alloc (w : World) (o : Obj) : (w.alloc o).heap = w.heap.push o := rfl
theorem alloc_new (w : World) (o : Obj) : (w.alloc o).heap[w.heap.size]? = some o := by rw [heap_alloc]; simp
theorem alloc_size (w : World) (o : Obj) : (w.alloc o).heap.size = w.heap.size + 1 := by rw [heap_alloc]; simp
theorem Ev.alloc (w : World) (o : Obj) : Ev w (w.alloc o) (fun _ => False) := by
  refine ⟨rfl, rfl, rfl, by rw [alloc_size]; omega, fun b hb _ => ?_, fun _ _ _ _ h => h.elim⟩
  rw [heap_alloc, Array.getElem?_push, if_neg (Nat.ne_of_lt hb)]

section
variable {cx : Cx} {H : Nat → Option Ob} {T : Nat → Option AV} {μ : Mu} {a : Act} {w : World}

/-- a new object in a new block -/
theorem RR.fresh (h : RR cx H T μ a w) {n0 : Nat} (hn : μ n0 = none) (ob : Ob) (x : AV) (rd : List Nat) {w' : World} {b : Nat} (hev : Ev w w' (fun _ => False)) (hb : w.heap.size ≤ b ∧ b < w'.heap.size)
    (hob : ∀ S', (∀ b, cx.Sta H μ w b → S' b) → ObRep w' S' (setMu μ n0 (some b)) n0 ob) :
    (∀ b', cx.Sta H μ w b' → cx.Sta (appH n0 ⟨x, [ob], [], rd⟩ H) (setMu μ n0 (some b)) w' b') ∧
    RR cx (appH n0 ⟨x, [ob], [], rd⟩ H) T (setMu μ n0 (some b)) a w' := by
  have hH : ∀ i, appH n0 ⟨x, [ob], [], rd⟩ H i = if i = n0 then some ob else H i := by
    intro i
    by_cases hi : i = n0
    · subst hi; simp [appH]
    · have : ¬ (n0 ≤ i ∧ i < n0 + 1) := by omega
      simp [appH, Eff.wlook, this, hi]
  have hμ : ∀ i x, μ i = some x → setMu μ n0 (some b) i = some x := by
    intro i x hx
    have : i ≠ n0 := by rintro rfl; rw [hn] at hx; cases hx
    simp [setMu, this, hx]
  have hne : ∀ i, μ i ≠ none → i ≠ n0 := by rintro i hi rfl; exact hi hn
  have hnew : ∀ i b', μ i = none → setMu μ n0 (some b) i = some (some b') → i = n0 ∧ b' = b := by
    intro i b' h1 h2
    by_cases hi : i = n0
    · simp [setMu, hi] at h2; exact ⟨hi, h2.symm⟩
    · simp [setMu, hi, h1] at h2
  have key := h.step (H' := appH n0 ⟨x, [ob], [], rd⟩ H) (μ' := setMu μ n0 (some b)) (fun _ => False) hev (fun _ h => h.elim) hμ (fun i hi _ => by rw [hH, if_neg (hne i hi)]) (fun _ _ h => h.elim)
    (fun i b' h1 h2 => by obtain ⟨_, rfl⟩ := hnew i b' h1 h2; exact .inl hb)
    (fun i j b' h1 h2 h3 h4 => (hnew i b' h1 h3).1.trans (hnew j b' h2 h4).1.symm)
  -- the stable set grows
  have hS : ∀ b', cx.Sta H μ w b' → cx.Sta (appH n0 ⟨x, [ob], [], rd⟩ H) (setMu μ n0 (some b)) w' b' := by
    intro b' hb'
    rcases hb' with hv | ⟨h1, h2, h3, h4⟩
    · exact .inl hv
    · refine .inr ⟨h1, Nat.lt_of_lt_of_le h2 hev.size, h3, fun i hi he => ?_⟩
      by_cases hin : i = n0
      · subst hin; simp [setMu] at he; omega
      · rw [hH, if_neg hin] at hi
        simp [setMu, hin] at he
        exact h4 i hi he
  refine ⟨hS, (key ?_).2⟩
  intro i o hor ho
  rcases hor with hf | hm
  · exact hf.elim
  · by_cases hin : i = n0
    · subst hin
      rw [hH, if_pos rfl] at ho
      injection ho with ho; subst ho
      exact hob _ hS
    · rw [hH, if_neg hin] at ho
      exact absurd (h.ob i o ho) (fun hr => by cases hr <;> simp_all)

/-- an object is written in place -/
theorem RR.write (h : RR cx H T μ a w) {i : Nat} (hi : H i ≠ none) {b : Nat} (hb : μ i = some (some b)) (n0 : Nat) (ob : Ob) (x : AV) (rd : List Nat) {w' : World} (hev : Ev w w' (fun c => c = b))
    (hob : ObRep w' (cx.Sta H μ w) μ i ob) :
    RR cx (appH n0 ⟨x, [], [(i, some ob)], rd⟩ H) T μ a w' := by
  have hH : ∀ j, appH n0 ⟨x, [], [(i, some ob)], rd⟩ H j = if j = i then some ob else H j := by
    intro j
    have : ¬ (n0 ≤ j ∧ j < n0 + 0) := by omega
    by_cases hj : j = i
    · subst hj; simp [appH, Eff.wlook] <;> omega
    · simp [appH, Eff.wlook, hj, Ne.symm hj] <;> omega
  have hS : cx.Sta (appH n0 ⟨x, [], [(i, some ob)], rd⟩ H) μ w' = cx.Sta (appH n0 ⟨x, [], [(i, some ob)], rd⟩ H) μ w' := rfl
  have key := h.step (H' := appH n0 ⟨x, [], [(i, some ob)], rd⟩ H) (μ' := μ) (fun j => j = i) hev (fun c hc => ⟨i, rfl, hi, hc ▸ hb⟩) (fun _ _ h => h) (fun j _ hj => by rw [hH, if_neg hj])
    (fun j _ hj _ => hj ▸ hi) (fun j b' h1 h2 => by rw [h1] at h2; cases h2) (fun j k b' h1 _ h3 _ => by rw [h1] at h3; cases h3)
  refine (key ?_).2
  have hS : ∀ b', cx.Sta H μ w b' → cx.Sta (appH n0 ⟨x, [], [(i, some ob)], rd⟩ H) μ w' b' := by
    intro b' hb'
    rcases hb' with hv | ⟨h1, h2, h3, h4⟩
    · exact .inl hv
    · refine .inr ⟨h1, Nat.lt_of_lt_of_le h2 hev.size, h3, fun j hj he => ?_⟩
      rw [hH] at hj
      by_cases hji : j = i
      · subst hji; exact h4 j hi he
      · rw [if_neg hji] at hj; exact h4 j hj he
  intro j o hor ho
  rcases hor with hf | hm
  · subst hf
    rw [hH, if_pos rfl] at ho
    injection ho with ho; subst ho
    exact hob.evolve (Ev.refl w' (fun _ => False)) (fun _ h => h.elim) hS (fun _ _ h => h) (fun _ _ h => h)
  · by_cases hji : j = i
    · subst hji; rw [hb] at hm; cases hm
    · rw [hH, if_neg hji] at ho
      exact absurd (h.ob j o ho) (fun hr => by cases hr <;> simp_all)
end

/-! ### alloc, box -/
def cellsA : AV → Option (List AV)
  | .agg cs => some cs
  | .tup _ => none
  | .any => none
  | x => some [x]

theorem cellsA_rep {w : World} {S : Nat → Prop} {μ : Mu} {x : AV} {cs : List AV} {v : Value} (h : cellsA x = some cs) (hr : Rep w S μ x v) :
    v.cells.size = cs.length ∧ (∀ (j : Nat) (y : AV) (u : Value), cs[j]? = some y → v.cells[j]? = some u → Rep w S μ y u) ∧ (∀ u ∈ v.cells, u.oneCell' = true) := by
  cases hr with
  | agg h1 h2 h3 =>
    simp only [cellsA, Option.some.injEq] at h; subst h
    exact ⟨h1, h2, h3⟩
  | tup h1 h2 => simp [cellsA] at h
  | any => simp [cellsA] at h
  | d hd =>
    simp only [cellsA, Option.some.injEq] at h; subst h
    have ho := hd.one
    have hc : v.cells = #[v] := by cases hd <;> rfl
    rw [hc]
    refine ⟨rfl, fun j y u hj hu => ?_, fun u hu => ?_⟩
    · cases j with
      | zero => simp at hj hu; subst hj hu; exact .d hd
      | succ j => simp at hj
    · simp at hu; subst hu; exact ho
  | _ =>
    simp only [cellsA, Option.some.injEq] at h; subst h
    refine ⟨rfl, fun j y u hj hu => ?_, fun u hu => ?_⟩
    · cases j with
      | zero =>
        simp [Value.cells] at hj hu; subst hj hu
        first | exact .ptr ‹_› | exact .ep ‹_› | exact .dp _ ‹_› ‹_› ‹_› | exact .rowNil ‹_› | exact .row ‹_› ‹_› ‹_› ‹_› ‹_› | exact .subNil | exact .sub ‹_› ‹_› ‹_› | exact .rowc ‹_› ‹_› ‹_› ‹_› ‹_› | exact .nil | exact .nilp | exact .ifc ‹_› | exact .mp ‹_› | exact .fn ‹_› ‹_› | exact .tf ‹_› ‹_›
      | succ j => simp at hj
    · simp [Value.cells] at hu; subst hu; rfl

/-- a new box -/
theorem loc_newbox {cx : Cx} {n0 : Nat} {ts : Nat → Option AV} {hs : Nat → Option Ob} {o : Oper} {t : TypeId} {cs : List AV} (hd : dstOk cx.n o.dst)
    (h : ∀ (H : Nat → Option Ob) (T : Nat → Option AV) (μ : Mu) (a : Act) (w : World), RR cx H T μ a w → (∀ y z, y ∈ o.op.operands → getT ts y = some z → Rep w (cx.Sta H μ w) μ z (a.eval y)) →
      ∃ arr : Array Value, (execOp a.eval o).run cx.P w = .ok (.value (.pointer (some ⟨w.heap.size, 0, none⟩))) (w.alloc (.cells arr t)) ∧ arr.size = cs.length ∧
        (∀ (j : Nat) (x : AV) (v : Value), cs[j]? = some x → arr[j]? = some v → Rep w (cx.Sta H μ w) μ x v) ∧ (∀ v ∈ arr, v.oneCell' = true)) :
    LocOp cx n0 ts hs o ⟨.ptr n0 0, [.box t cs], [], []⟩ := by
  intro H T μ a w K Q hr hT hH hn hK
  obtain ⟨arr, h1, h2, h3, h4⟩ := h H T μ a w hr (fun y z hy hz => hr.eval (fun t ht => hT t (ht ▸ hy)) hz)
  unfold Oper.wp
  rw [h1]
  have hn0 : μ n0 = none := hn 0 (by simp)
  have hμ : ∀ i x, μ i = some x → setMu μ n0 (some w.heap.size) i = some x := by
    intro i x hx
    have : i ≠ n0 := by rintro rfl; rw [hn0] at hx; cases hx
    simp [setMu, this, hx]
  have key := hr.fresh hn0 (.box t cs) (.ptr n0 0) [] (Ev.alloc w (.cells arr t)) (b := w.heap.size) (by rw [alloc_size]; omega)
    (fun S' hS => .box (by simp [setMu]) (alloc_new w _) h2 (fun j x v hx hv => (h3 j x v hx hv).evolve (Ev.alloc w _) (fun _ h => h.elim) hS hμ) h4)
  refine hK _ _ _ (key.2.putD hd (.ptr (by simp [setMu]))) hμ (fun i hi => ?_)
  by_cases hin : i = n0
  · subst hin; exact .inr (by simp)
  · simp [setMu, hin] at hi; exact .inl hi

theorem run_newVar (P : Program) (w : World) (t : TypeId) (v : Value) : (newVar t v).run P w = .ok ⟨w.heap.size, 0, none⟩ (w.alloc (.cells v.cells t)) := rfl

theorem loc_box {cx : Cx} {n0 : Nat} {ts : Nat → Option AV} {hs : Nat → Option Ob} {o : Oper} {t : TypeId} {y : Operand} {x : AV} {cs : List AV} (hd : dstOk cx.n o.dst) (ho : o.op = .box t y) (hx : getT ts y = some x) (hc : cellsA x = some cs) :
    LocOp cx n0 ts hs o ⟨.ptr n0 0, [.box t cs], [], []⟩ := by
  refine loc_newbox hd fun H T μ a w hr he => ?_
  have h1 := he y x (by simp [Op.operands, ho]) hx
  obtain ⟨h2, h3, h4⟩ := cellsA_rep hc h1
  exact ⟨(a.eval y).cells, by simp [execOp, ho, Instr.box, run_newVar], h2, h3, h4⟩

theorem mapM_get {α β : Type} {f : α → Option β} : ∀ (l : List α) (m : List β), l.mapM f = some m → m.length = l.length ∧ ∀ (j : Nat) (x : α) (y : β), l[j]? = some x → m[j]? = some y → f x = some y
  | [], m, h => by simp at h; subst h; simp
  | a :: l, m, h => by
    simp only [List.mapM_cons, bind, Option.bind] at h
    cases h1 : f a with
    | none => simp [h1] at h
    | some b =>
      cases h2 : l.mapM f with
      | none => simp [h1, h2] at h
      | some m' =>
        simp [h1, h2] at h; subst h
        obtain ⟨h3, h4⟩ := mapM_get l m' h2
        refine ⟨by simp [h3], fun j x y hx hy => ?_⟩
        cases j with
        | zero => simp at hx hy; subst hx hy; exact h1
        | succ j => simp at hx hy; exact h4 j x y hx hy

theorem TL_zero {P : Program} {t : TypeId} {cs : List AV} (h : (TL P t).zero = some cs) : ∃ i z, P.info? t = some i ∧ i.zero = some z ∧ z.cells.size = cs.length ∧ (TL P t).size = i.size ∧ (TL P t).ok = true ∧
    (∀ (w : World) (S : Nat → Prop) (μ : Mu) (j : Nat) (x : AV) (v : Value), cs[j]? = some x → z.cells[j]? = some v → Rep w S μ x v) ∧ (∀ v ∈ z.cells, v.oneCell' = true) := by
  unfold TL at *
  cases h1 : P.info? t with
  | none => simp [h1] at h
  | some i =>
    cases h2 : P.underlying t with
    | none => simp [h1, h2] at h
    | some d =>
      simp only [h1, h2] at h
      cases h3 : i.zero with
      | none => simp [h3] at h
      | some z =>
        simp only [h3, Option.bind_some] at h
        obtain ⟨h4, h5⟩ := mapM_get _ _ h
        refine ⟨i, z, rfl, h3, by simp at h4; exact h4.symm, rfl, rfl, fun w S μ j x v hx hv => (avOf_rep (h5 j v x (by simpa using hv) hx) w S μ).1, fun v hv => ?_⟩
        obtain ⟨j, hj, rfl⟩ := Array.mem_iff_getElem.1 hv
        have hj' : j < cs.length := by simp at h4; omega
        exact (avOf_rep (h5 j z.cells[j] cs[j] (by simp [hj]) (by simp [hj'])) default (fun _ => True) (fun _ => none)).2

theorem loc_alloc {cx : Cx} {n0 : Nat} {ts : Nat → Option AV} {hs : Nat → Option Ob} {o : Oper} {t : TypeId} {cs : List AV} (hd : dstOk cx.n o.dst) (ho : o.op = .alloc t) (hc : (TL cx.P t).zero = some cs) :
    LocOp cx n0 ts hs o ⟨.ptr n0 0, [.box t cs], [], []⟩ := by
  obtain ⟨i, z, h1, h2, h3, _, _, h4, h5⟩ := TL_zero hc
  refine loc_newbox hd fun H T μ a w hr he => ⟨z.cells, ?_, h3, fun j x v hx hv => h4 w _ μ j x v hx hv, h5⟩
  simp [execOp, ho, Instr.alloc, zeroValue, typeInfo, h1, h2, run_newVar]
end Go.Proofs.Ytokocigmchfdfaa
