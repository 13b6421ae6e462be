/- Engine, part O: contracts that were proved by other means, as contracts of the engine; equality at struct types. -/
import Derived.Test.YtokocigmchfdfaaEngN
import Derived.Test.YtokocigmchfdfaaLib2
set_option linter.unusedSimpArgs false
set_option linter.unusedVariables false
namespace Go.Proofs.Ytokocigmchfdfaa
open Go.RowKit

theorem kinds_int {l : List AV} {k : IntKind} {ks : List (Option IntKind)} (h : kindsOf l = some (some k :: ks)) : ∃ n l', l = .d (.int k n) :: l' ∧ kindsOf l' = some ks := by
  match l, h with
  | [], h => simp [kindsOf] at h
  | .d (.int k' n) :: l', h =>
    simp only [kindsOf, Option.map_eq_some_iff] at h
    obtain ⟨a, h1, h2⟩ := h
    injection h2 with h2 h3; injection h2 with h2; subst h2 h3
    exact ⟨n, l', rfl, h1⟩
  | .d (.bool b) :: l', h =>
    simp only [kindsOf, Option.map_eq_some_iff] at h
    obtain ⟨a, h1, h2⟩ := h
    injection h2 with h2 h3; cases h2
theorem kinds_bool {l : List AV} {ks : List (Option IntKind)} (h : kindsOf l = some (none :: ks)) : ∃ b l', l = .d (.bool b) :: l' ∧ kindsOf l' = some ks := by
  match l, h with
  | [], h => simp [kindsOf] at h
  | .d (.bool b) :: l', h =>
    simp only [kindsOf, Option.map_eq_some_iff] at h
    obtain ⟨a, h1, h2⟩ := h
    injection h2 with h2 h3; subst h3
    exact ⟨b, l', rfl, h1⟩
  | .d (.int k' n) :: l', h =>
    simp only [kindsOf, Option.map_eq_some_iff] at h
    obtain ⟨a, h1, h2⟩ := h
    injection h2 with h2 h3; cases h2
theorem kinds_nil {l : List AV} (h : kindsOf l = some []) : l = [] := by
  match l, h with
  | [], _ => rfl
  | .d (.bool b) :: l', h => simp [kindsOf] at h
  | .d (.int k' n) :: l', h => simp [kindsOf] at h

/-- values built of numbers and truth values alone -/
def scalA : AV → Bool
  | .d x => scalD x
  | .agg cs => cs.all fun | .d x => scalD x | _ => false
  | _ => false
def valA : AV → Value
  | .d x => valD x
  | .agg cs => .agg (cs.map fun | .d x => valD x | _ => undef).toArray
  | .tup cs => .tuple (cs.map fun | .d x => valD x | .agg cs => .agg (cs.map fun | .d x => valD x | _ => undef).toArray | _ => undef).toArray
  | _ => undef
def scalR : AV → Bool
  | .tup cs => cs.all scalA
  | x => scalA x

theorem valD_one {x : D} (h : scalD x = true) : (valD x).oneCell' = true := by cases x <;> first | rfl | (simp [scalD] at h)

theorem scalA_val {w : World} {S : Nat → Prop} {μ : Mu} {x : AV} {v : Value} (hs : scalA x = true) (h : Rep w S μ x v) : v = valA x := by
  cases h with
  | d h => exact valD_rep hs h
  | agg h1 h2 h3 =>
    rename_i cs vs
    simp only [scalA] at hs
    simp only [valA]
    congr 1
    apply Array.ext'
    apply List.ext_getElem?
    intro j
    simp only [List.getElem?_map]
    by_cases hj : j < cs.length
    · have hjv : j < vs.size := by omega
      have hr := h2 j cs[j] vs[j] (by simp [hj]) (by simp [hjv])
      have hsj := (List.all_eq_true.1 hs) cs[j] (List.getElem_mem hj)
      rw [List.getElem?_eq_getElem hj, Option.map_some]
      generalize cs[j] = y at *
      cases y with
      | d y => cases hr with | d hr => simp [hjv, valD_rep hsj hr]
      | _ => simp at hsj
    · have hjv : ¬ j < vs.size := by omega
      simp [hj, hjv]
  | _ => simp [scalA] at hs

theorem scalA_rep {w : World} {S : Nat → Prop} {μ : Mu} {x : AV} (hs : scalA x = true) : Rep w S μ x (valA x) := by
  cases x with
  | d x => exact .d (rep_valD hs)
  | agg cs =>
    simp only [scalA] at hs
    refine .agg (by simp) (fun j y v hy hv => ?_) (fun v hv => ?_)
    · have hsj := (List.all_eq_true.1 hs) y (List.mem_of_getElem? hy)
      simp [hy] at hv
      cases y with
      | d y => simp at hv; subst hv; exact .d (rep_valD hsj)
      | _ => simp at hsj
    · simp at hv
      obtain ⟨y, hy, rfl⟩ := hv
      have hsj := (List.all_eq_true.1 hs) y hy
      cases y with
      | d y => exact valD_one hsj
      | _ => simp at hsj
  | _ => simp [scalA] at hs

theorem scalR_rep {w : World} {S : Nat → Prop} {μ : Mu} {x : AV} (hs : scalR x = true) : Rep w S μ x (valA x) := by
  cases x with
  | tup cs =>
    simp only [scalR] at hs
    refine .tup (by simp) (fun j y v hy hv => ?_)
    have hsj := (List.all_eq_true.1 hs) y (List.mem_of_getElem? hy)
    simp [hy] at hv
    cases y with
    | d y => simp at hv; subst hv; exact .d (rep_valD hsj)
    | agg cs => simp at hv; subst hv; exact scalA_rep (x := .agg cs) hsj
    | _ => simp [scalA] at hsj
  | d x => exact scalA_rep hs
  | agg cs => exact scalA_rep hs
  | _ => simp [scalR, scalA] at hs

theorem vals_of {V Bo : Nat → Prop} {μ : Mu} {w : World} {args : List AV} {ins : List Ob} {vals : Array Value} (hin : In V Bo μ w args ins vals) (hs : args.all scalA = true) : vals = (args.map valA).toArray := by
  apply Array.ext'
  apply List.ext_getElem?
  intro j
  have hn := hin.n
  simp only [List.getElem?_map]
  by_cases hj : j < args.length
  · have hjv : j < vals.size := by omega
    have hr := hin.rep j args[j] vals[j] (by simp [hj]) (by simp [hjv])
    have := scalA_val ((List.all_eq_true.1 hs) args[j] (List.getElem_mem hj)) hr
    simp [hj, hjv, this]
  · have hjv : ¬ j < vals.size := by omega
    simp [hj, hjv]

theorem ev_below {w w' : World} {Bo : Nat → Prop} (h : Below w.heap.size w w') (hbo : ∀ b, Bo b → b < w.heap.size) : Ev w w' Bo :=
  ⟨h.os, h.tape, h.output, h.size, fun b hb _ => h.block b hb, fun b arr _ _ hb hh => ⟨arr, (h.block b (hbo b hb)).trans hh, rfl⟩⟩

/-- numbers and structs of numbers in and out; nothing that was there has changed -/
theorem ok_struct {P : Program} {f : FuncId} {s : Spec} (hfn : ∃ fn : Func, P.funcs[f]? = some fn ∧ fn.body.isSome = true ∧ (fn.name == "runtime.NumGoroutine") = false)
    (h : ∀ args ins res outs, s.rel args ins res outs → ins = [] ∧ outs = [] ∧ args.all scalA = true ∧ scalR res = true ∧ ∀ w, Calls P f (args.map valA).toArray w fun e w' => e = .returned (valA res) ∧ Below w.heap.size w w') : Ok P f s := by
  refine ⟨hfn, ?_⟩
  intro args ins res outs hrel w V Bo μ vals hin
  obtain ⟨rfl, rfl, h1, h2, hc⟩ := h args ins res outs hrel
  rw [vals_of hin h1]
  refine (hc w).mono ?_
  rintro e w' ⟨rfl, hb⟩
  have hbo : ∀ b, Bo b → b < w.heap.size := fun b hb => by obtain ⟨i, hi, _⟩ := hin.bo' b hb; simp at hi
  refine ⟨_, fun _ => none, rfl, ev_below hb hbo, fun i x hx => ?_, scalR_rep h2, (by simp), (fun i b _ h => by cases h), (by simp), (fun _ _ => rfl), Nat.le_refl _⟩
  rw [hin.lt i (by simp)] at hx; cases hx

/-- a row of the call's own, as an object -/
theorem own_obj {α : Type} {encV : α → List Value} {encD : α → List D} {sz base : Nat} {e : TypeId} {w : World} {v : Value} {l : List α} (hsz : 0 < sz) (hlen : ∀ x, (encD x).length = sz) (hv : ∀ x, encV x = (encD x).map valD) (hsc : ∀ x, ∀ d ∈ encD x, scalD d = true)
    (h : Own encV sz base e w v l) : ∃ nb : Option Nat, (∀ b, nb = some b → base ≤ b ∧ b < w.heap.size) ∧ ∀ (S : Nat → Prop) (μ : Mu) (i : Nat), μ i = some nb → Rep w S μ (.row i sz 0 l.length) v ∧ ObRep w S μ i (.rows e sz (l.map encD)) := by
  obtain ⟨h1, h2⟩ := h
  rcases h2 with ⟨rfl, hn⟩ | ⟨g, cap, cur, rfl, hg, hh, hnc, hcm, hcs, ht⟩
  · have : l = [] := List.eq_nil_of_length_eq_zero hn
    subst this
    exact ⟨none, (fun b h => by cases h), fun S μ i hi => ⟨.rowNil hi, .rowsNil hi hsz⟩⟩
  · refine ⟨some g, fun b hb => by injection hb with hb; subst hb; exact ⟨hg, heap_lt hh⟩, fun S μ i hi => ⟨?_, ?_⟩⟩
    · have := Rep.row (w := w) (S := S) (μ := μ) (i := i) (sz := sz) (o := 0) (len := l.length) hi hh hnc hcm (by rw [hcs]; simp)
      simpa using this
    · refine .rows hi hh hsz (by simp; rw [hcs]; exact Nat.mul_le_mul_right _ hnc) (fun k r hr => ?_) (fun k j r x u hr hx hu => ?_)
      · simp at hr; obtain ⟨y, _, rfl⟩ := hr; exact hlen y
      · simp at hr
        obtain ⟨y, hy, rfl⟩ := hr
        have hjs : j < sz := by rw [← hlen y]; exact (List.getElem?_eq_some_iff.1 hx).1
        have hk : k < l.length := (List.getElem?_eq_some_iff.1 hy).1
        have hlt : k * sz + j < l.length * sz := by
          have : (k + 1) * sz ≤ l.length * sz := Nat.mul_le_mul_right _ hk
          rw [Nat.add_mul, Nat.one_mul] at this; omega
        have hf := flat_get (enc := encV) (sz := sz) (fun x => by rw [hv]; simp [hlen]) l k y hy j (valD x) (by rw [hv]; simp [hx])
        have hu' : (l.flatMap encV)[k * sz + j]? = some u := by
          rw [← ht, List.getElem?_take, if_pos hlt]; simpa using hu
        rw [hf] at hu'; injection hu' with hu'; subst hu'
        exact rep_valD (hsc y x (List.mem_of_getElem? hx))

/-- a slice that reads as a list, as pure data -/
theorem rd_data {α : Type} {encV : α → List Value} {encD : α → List D} {sz : Nat} {w : World} {v : Value} {l : List α} (hlen : ∀ x, (encD x).length = sz) (hv : ∀ x, encV x = (encD x).map valD) (hsc : ∀ x, ∀ d ∈ encD x, scalD d = true)
    (h : Rd encV sz w v l) : RepD w (fun b => b < w.heap.size) (.sl (l.map encD)) v := by
  obtain ⟨A, c, rfl, hc, hx⟩ := h
  rcases Nat.eq_zero_or_pos l.length with h0 | h0
  · have : l = [] := List.eq_nil_of_length_eq_zero h0
    subst this; exact .nil
  · obtain ⟨b, off, rfl, hb, hcell⟩ := hx h0
    have hl : (l.map encD).length = l.length := by simp
    rw [← hl]
    have get : ∀ (i j : Nat) (r : List D) (x : D), (l.map encD)[i]? = some r → r[j]? = some x → w.cell? ⟨b, off + i * sz + j, none⟩ = some (valD x) ∧ scalD x = true := by
      intro i j r x hr hj
      rw [List.getElem?_map] at hr
      cases hy : l[i]? with
      | none => simp [hy] at hr
      | some y =>
        simp [hy] at hr; subst hr
        exact ⟨hcell i y hy j (valD x) (by rw [hv]; simp [hj]), hsc y x (List.mem_of_getElem? hj)⟩
    refine .sl (sz := sz) (fun i j => valD (((l.map encD)[i]?.getD [])[j]?.getD (.bool false))) hb (by simpa using hc) (fun i r hr => ?_) (fun i j r x hr hj => ?_) (fun i j r x hr hj => ?_)
    · rw [List.getElem?_map] at hr
      cases hy : l[i]? with
      | none => simp [hy] at hr
      | some y => simp [hy] at hr; subst hr; exact hlen y
    · rw [hr, Option.getD_some, hj, Option.getD_some]; exact (get i j r x hr hj).1
    · rw [hr, Option.getD_some, hj, Option.getD_some]; exact rep_valD (get i j r x hr hj).2

/-- a law: it returns true, and leaves all as it was -/
theorem law_calls {P : Program} {f : FuncId} {s : Spec} (hok : Ok P f s) (args : List AV) (w : World) (vals : Array Value) (hrel : s.rel args [] (.d (.bool true)) []) (hn : vals.size = args.length)
    (hrep : ∀ (j : Nat) (x : AV) (v : Value), args[j]? = some x → vals[j]? = some v → Rep w (fun b => b < w.heap.size) (fun _ => none) x v) :
    Calls P f vals w fun e w' => e = .returned (.bool true) ∧ Below w.heap.size w w' := by
  refine (hok.2 args [] _ [] hrel w (fun b => b < w.heap.size) (fun _ => False) (fun _ => none) vals ⟨fun b hb => ⟨hb, fun h => h⟩, hn, hrep, by simp, by simp, fun _ h => h.elim, by simp, fun _ _ => rfl⟩).mono ?_
  rintro e w' ⟨v, μ', rfl, ho⟩
  have hv := ho.res
  cases hv with
  | d hv =>
    cases hv
    exact ⟨rfl, ho.ev.os, ho.ev.tape, ho.ev.output, ho.ev.size, fun b hb => ho.ev.block b hb (fun h => h)⟩
theorem law_scal {P : Program} {f : FuncId} {s : Spec} (hok : Ok P f s) (args : List AV) (w : World) (hrel : s.rel args [] (.d (.bool true)) []) (hs : args.all scalA = true) :
    Calls P f (args.map valA).toArray w fun e w' => e = .returned (.bool true) ∧ Below w.heap.size w w' :=
  law_calls hok args w _ hrel (by simp) (fun j x v hx hv => by
    simp [hx] at hv; subst hv
    exact scalA_rep ((List.all_eq_true.1 hs) x (List.mem_of_getElem? hx)))
end Go.Proofs.Ytokocigmchfdfaa
