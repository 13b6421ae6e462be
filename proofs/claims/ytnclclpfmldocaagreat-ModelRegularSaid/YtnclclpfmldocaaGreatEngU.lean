import Derived.Test.YtnclclpfmldocaaGreatEngN
import Derived.Test.YtnclclpfmldocaaGreatLib2

/- Engine, part O: contracts that were proved by other means, as contracts of the engine; equality at struct types. -/
namespace Go.Proofs.YtnclclpfmldocaaGreat
open Go.RowKit

theorem kinds_int {l : List AV} {k : IntKind} {ks : List (Option IntKind)} (h : kindsOf l = some (some k :: ks)) : ∃ n l', l = .d (.int k n) :: l' ∧ kindsOf l' = some ks := by
  match l, h with
  | [], h => simp [kindsOf] at h
  | .d (.int k' n) :: l', h =>
    simp only [kindsOf, Option.map_eq_some_iff] at h
    obtain ⟨a, h1, h2⟩ := h
    injection h2 with h2 h3; injection h2 with h2; subst h2 h3
    exact ⟨n, l', rfl, h1⟩
  | .d (.bool b) :: l', h =>
    simp only [kindsOf, Option.map_eq_some_iff] at h
    obtain ⟨a, h1, h2⟩ := h
    injection h2 with h2 h3; cases h2
theorem kinds_bool {l : List AV} {ks : List (Option IntKind)} (h : kindsOf l = some (none :: ks)) : ∃ b l', l = .d (.bool b) :: l' ∧ kindsOf l' = some ks := by
  match l, h with
  | [], h => simp [kindsOf] at h
  | .d (.bool b) :: l', h =>
    simp only [kindsOf, Option.map_eq_some_iff] at h
    obtain ⟨a, h1, h2⟩ := h
    injection h2 with h2 h3; subst h3
    exact ⟨b, l', rfl, h1⟩
  | .d (.int k' n) :: l', h =>
    simp only [kindsOf, Option.map_eq_some_iff] at h
    obtain ⟨a, h1, h2⟩ := h
    injection h2 with h2 h3; cases h2
theorem kinds_nil {l : List AV} (h : kindsOf l = some []) : l = [] := by
  match l, h with
  | [], _ => rfl
  | .d (.bool b) :: l', h => simp [kindsOf] at h
  | .d (.int k' n) :: l', h => simp [kindsOf] at h

/-- values built of numbers and truth values alone -/
def scalA : AV → Bool
  | .d x => scalD x
  | .agg cs => cs.all fun | .d x => scalD x | _ => false
  | _ => false
def valA : AV → Value
  | .d x => valD x
  | .agg cs => .agg (cs.map fun | .d x => valD x | _ => undef).toArray
  | .tup cs => .tuple (cs.map fun | .d x => valD x | .agg cs => .agg (cs.map fun | .d x => valD x | _ => undef).toArray | _ => undef).toArray
  | _ => undef
def scalR : AV → Bool
  | .tup cs => cs.all scalA
  | x => scalA x

theorem valD_one {x : D} (h : scalD x = true) : (valD x).oneCell' = true := by cases x <;> first | rfl | (simp [scalD] at h)

theorem scalA_val {w : World} {S : Nat → Prop} {μ : Mu} {x : AV} {v : Value} (hs : scalA x = true) (h : Rep w S μ x v) : v = valA x := by
  cases h with
  | d h => exact valD_rep hs h
  | agg h1 h2 h3 =>
    rename_i cs vs
    simp only [scalA] at hs
    simp only [valA]
    congr 1
    apply Array.ext'
    apply List.ext_getElem?
    intro j
    simp only [List.getElem?_map]
    by_cases hj : j < cs.length
    · have hjv : j < vs.size := by omega
      have hr := h2 j cs[j] vs[j] (by simp [hj]) (by simp [hjv])
      have hsj := (List.all_eq_true.1 hs) cs[j] (List.getElem_mem hj)
      rw [List.getElem?_eq_getElem hj, Option.map_some]
      generalize cs[j] = y at *
      cases y with
      | d y => cases hr with | d hr => simp [hjv, valD_rep hsj hr]
      | _ => simp at hsj
    · have hjv : ¬ j < vs.size := by omega
      simp [hj, hjv]
  | _ => simp [scalA] at hs

theorem scalA_rep {w : World} {S : Nat → Prop} {μ : Mu} {x : AV} (hs : scalA x = true) : Rep w S μ x (valA x) := by
  cases x with
  | d x => exact .d (rep_valD hs)
  | agg cs =>
    simp only [scalA] at hs
    refine .agg (by simp) (fun j y v hy hv => ?_) (fun v hv => ?_)
    · have hsj := (List.all_eq_true.1 hs) y (List.mem_of_getElem? hy)
      simp [hy] at hv
      cases y with
      | d y => simp at hv; subst hv; exact .d (rep_valD hsj)
      | _ => simp at hsj
    · simp at hv
      obtain ⟨y, hy, rfl⟩ := hv
      have hsj := (List.all_eq_true.1 hs) y hy
      cases y with
      | d y => exact valD_one hsj
      | _ => simp at hsj
  | _ => simp [scalA] at hs

theorem scalR_rep {w : World} {S : Nat → Prop} {μ : Mu} {x : AV} (hs : scalR x = true) : Rep w S μ x (valA x) := by
  cases x with
  | tup cs =>
    simp only [scalR] at hs
    refine .tup (by simp) (fun j y v hy hv => ?_)
    have hsj := (List.all_eq_true.1 hs) y (List.mem_of_getElem? hy)
    simp [hy] at hv
    cases y with
    | d y => simp at hv; subst hv; exact .d (rep_valD hsj)
    | agg cs => simp at hv; subst hv; exact scalA_rep (x := .agg cs) hsj
    | _ => simp [scalA] at hsj
  | d x => exact scalA_rep hs
  | agg cs => exact scalA_rep hs
  | _ => simp [scalR, scalA] at hs

theorem vals_of {V Bo : Nat → Prop} {μ : Mu} {w : World} {args : List AV} {ins : List Ob} {vals : Array Value} (hin : In V Bo μ w args ins vals) (hs : args.all scalA = true) : vals = (args.map valA).toArray := by
  apply Array.ext'
  apply List.ext_getElem?
  intro j
  have hn := hin.n
  simp only [List.getElem?_map]
  by_cases hj : j < args.length
  · have hjv : j < vals.size := by omega
    have hr := hin.rep j args[j] vals[j] (by simp [hj]) (by simp [hjv])
    have := scalA_val ((List.all_eq_true.1 hs) args[j] (List.getElem_mem hj)) hr
    simp [hj, hjv, this]
  · have hjv : ¬ j < vals.size := by omega
    simp [hj, hjv]

theorem ev_below {w w' : World} {Bo : Nat → Prop} (h : Below w.heap.size w w') (hbo : ∀ b, Bo b → b < w.heap.size) : Ev w w' Bo :=
  ⟨h.os, h.tape, h.output, h.size, fun b hb _ => h.block b hb, fun b arr _ _ hb hh => ⟨arr, (h.block b (hbo b hb)).trans hh, rfl⟩⟩

/-- numbers and structs of numbers in and out; nothing that was there has changed -/
theorem ok_struct {P : Program} {f : FuncId} {s : Spec} (hfn : ∃ fn : Func, P.funcs[f]? = some fn ∧ fn.body.isSome = true ∧ (fn.name == "runtime.NumGoroutine") = false)
    (h : ∀ args ins res outs, s.rel args ins res outs → ins = [] ∧ outs = [] ∧ args.all scalA = true ∧ scalR res = true ∧ ∀ w, Calls P f (args.map valA).toArray w fun e w' => e = .returned (valA res) ∧ Below w.heap.size w w') : Ok P f s := by
  refine ⟨hfn, ?_⟩
  intro args ins res outs hrel w V Bo μ vals hin
  obtain ⟨rfl, rfl, h1, h2, hc⟩ := h args ins res outs hrel
  rw [vals_of hin h1]
  refine (hc w).mono ?_
  rintro e w' ⟨rfl, hb⟩
  have hbo : ∀ b, Bo b → b < w.heap.size := fun b hb => by obtain ⟨i, hi, _⟩ := hin.bo' b hb; simp at hi
  refine ⟨_, fun _ => none, rfl, ev_below hb hbo, fun i x hx => ?_, scalR_rep h2, (by simp), (fun i b _ h => by cases h), (by simp), (fun _ _ => rfl), Nat.le_refl _⟩
  rw [hin.lt i (by simp)] at hx; cases hx

/-- a row of the call's own, as an object -/
theorem own_obj {α : Type} {encV : α → List Value} {encD : α → List D} {sz base : Nat} {e : TypeId} {w : World} {v : Value} {l : List α} (hsz : 0 < sz) (hlen : ∀ x, (encD x).length = sz) (hv : ∀ x, encV x = (encD x).map valD) (hsc : ∀ x, ∀ d ∈ encD x, scalD d = true)
    (h : Own encV sz base e w v l) : ∃ nb : Option Nat, (∀ b, nb = some b → base ≤ b ∧ b < w.heap.size) ∧ ∀ (S : Nat → Prop) (μ : Mu) (i : Nat), μ i = some nb → Rep w S μ (.row i sz 0 l.length) v ∧ ObRep w S μ i (.rows e sz (l.map encD)) := by
  obtain ⟨h1, h2⟩ := h
  rcases h2 with ⟨rfl, hn⟩ | ⟨g, cap, cur, rfl, hg, hh, hnc, hcm, hcs, ht⟩
  · have : l = [] := List.eq_nil_of_length_eq_zero hn
    subst this
    exact ⟨none, (fun b h => by cases h), fun S μ i hi => ⟨.rowNil hi, .rowsNil hi hsz⟩⟩
  · refine ⟨some g, fun b hb => by injection hb with hb; subst hb; exact ⟨hg, heap_lt hh⟩, fun S μ i hi => ⟨?_, ?_⟩⟩
    · have := Rep.row (w := w) (S := S) (μ := μ) (i := i) (sz := sz) (o := 0) (len := l.length) hi hh hnc hcm (by rw [hcs]; simp)
      simpa using this
    · refine .rows hi hh hsz (by simp; rw [hcs]; exact Nat.mul_le_mul_right _ hnc) (fun k r hr => ?_) (fun k j r x u hr hx hu => ?_)
      · simp at hr; obtain ⟨y, _, rfl⟩ := hr; exact hlen y
      · simp at hr
        obtain ⟨y, hy, rfl⟩ := hr
        have hjs : j < sz := by rw [← hlen y]; exact (List.getElem?_eq_some_iff.1 hx).1
        have hk : k < l.length := (List.getElem?_eq_some_iff.1 hy).1
        have hlt : k * sz + j < l.length * sz := by
          have : (k + 1) * sz ≤ l.length * sz := Nat.mul_le_mul_right _ hk
          rw [Nat.add_mul, Nat.one_mul] at this; omega
        have hf := flat_get (enc := encV) (sz := sz) (fun x => by rw [hv]; simp [hlen]) l k y hy j (valD x) (by rw [hv]; simp [hx])
        have hu' : (l.flatMap encV)[k * sz + j]? = some u := by
          rw [← ht, List.getElem?_take, if_pos hlt]; simpa using hu
        rw [hf] at hu'; injection hu' with hu'; subst hu'
        exact rep_valD (hsc y x (List.mem_of_getElem? hx))

/-- a slice that reads as a list, as pure data -/
theorem rd_data {α : Type} {encV : α → List Value} {encD : α → List D} {sz : Nat} {w : World} {v : Value} {l : List α} (hlen : ∀ x, (encD x).length = sz) (hv : ∀ x, encV x = (encD x).map valD) (hsc : ∀ x, ∀ d ∈ encD x, scalD d = true)
    (h : Rd encV sz w v l) : RepD w (fun b => b < w.heap.size) (.sl (l.map encD)) v := by
  obtain ⟨A, c, rfl, hc, hx⟩ := h
  rcases Nat.eq_zero_or_pos l.length with h0 | h0
  · have : l = [] := List.eq_nil_of_length_eq_zero h0
    subst this; exact .nil
  · obtain ⟨b, off, rfl, hb, hcell⟩ := hx h0
    have hl : (l.map encD).length = l.length := by simp
    rw [← hl]
    have get : ∀ (i j : Nat) (r : List D) (x : D), (l.map encD)[i]? = some r → r[j]? = some x → w.cell? ⟨b, off + i * sz + j, none⟩ = some (valD x) ∧ scalD x = true := by
      intro i j r x hr hj
      rw [List.getElem?_map] at hr
      cases hy : l[i]? with
      | none => simp [hy] at hr
      | some y =>
        simp [hy] at hr; subst hr
        exact ⟨hcell i y hy j (valD x) (by rw [hv]; simp [hj]), hsc y x (List.mem_of_getElem? hj)⟩
    refine .sl (sz := sz) (fun i j => valD (((l.map encD)[i]?.getD [])[j]?.getD (.bool false))) hb (by simpa using hc) (fun i r hr => ?_) (fun i j r x hr hj => ?_) (fun i j r x hr hj => ?_)
    · rw [List.getElem?_map] at hr
      cases hy : l[i]? with
      | none => simp [hy] at hr
      | some y => simp [hy] at hr; subst hr; exact hlen y
    · rw [hr, Option.getD_some, hj, Option.getD_some]; exact (get i j r x hr hj).1
    · rw [hr, Option.getD_some, hj, Option.getD_some]; exact rep_valD (get i j r x hr hj).2

/-- a law: it returns true, and leaves all as it was -/
theorem law_calls {P : Program} {f : FuncId} {s : Spec} (hok : Ok P f s) (args : List AV) (w : World) (vals : Array Value) (hrel : s.rel args [] (.d (.bool true)) []) (hn : vals.size = args.length)
    (hrep : ∀ (j : Nat) (x : AV) (v : Value), args[j]? = some x → vals[j]? = some v → Rep w (fun b => b < w.heap.size) (fun _ => none) x v) :
    Calls P f vals w fun e w' => e = .returned (.bool true) ∧ Below w.heap.size w w' := by
  refine (hok.2 args [] _ [] hrel w (fun b => b < w.heap.size) (fun _ => False) (fun _ => none) vals ⟨fun b hb => ⟨hb, fun h => h⟩, hn, hrep, by simp, by simp, fun _ h => h.elim, by simp, fun _ _ => rfl⟩).mono ?_
  rintro e w' ⟨v, μ', rfl, ho⟩
  have hv := ho.res
  cases hv with
  | d hv =>
    cases hv
    exact ⟨rfl, ho.ev.os, ho.ev.tape, ho.ev.output, ho.ev.size, fun b hb => ho.ev.block b hb (fun h => h)⟩
theorem law_scal {P : Program} {f : FuncId} {s : Spec} (hok : Ok P f s) (args : List AV) (w : World) (hrel : s.rel args [] (.d (.bool true)) []) (hs : args.all scalA = true) :
    Calls P f (args.map valA).toArray w fun e w' => e = .returned (.bool true) ∧ Below w.heap.size w w' :=
  law_calls hok args w _ hrel (by simp) (fun j x v hx hv => by
    simp [hx] at hv; subst hv
    exact scalA_rep ((List.all_eq_true.1 hs) x (List.mem_of_getElem? hx)))
end Go.Proofs.YtnclclpfmldocaaGreat

/- Engine, part P: a row may be read as a shorter one. -/
namespace Go.Proofs.YtnclclpfmldocaaGreat
open Go.RowKit

theorem obrep_take {w : World} {S : Nat → Prop} {μ : Mu} {i : Nat} {t : TypeId} {sz : Nat} {rs : List (List D)} (n : Nat) (h : ObRep w S μ i (.rows t sz rs)) : ObRep w S μ i (.rows t sz (rs.take n)) := by
  cases h with
  | rowsNil h1 h2 => simp only [List.take_nil]; exact .rowsNil h1 h2
  | rows h1 h2 h3 h4 h5 h6 =>
    have sub : ∀ (k : Nat) (r : List D), (rs.take n)[k]? = some r → rs[k]? = some r := by
      intro k r hk
      rw [List.getElem?_take] at hk
      split at hk
      · exact hk
      · cases hk
    refine .rows h1 h2 h3 (Nat.le_trans (Nat.mul_le_mul_right _ ?_) h4) (fun k r hk => h5 k r (sub k r hk)) (fun k j r x v hk hj hv => h6 k j r x v (sub k r hk) hj hv)
    simp only [List.length_take]; omega

/-- an object's rows behind the n-th are forgotten -/
theorem W_trim {cx : Cx} {c : Code} {σ : St} {Q : Exit → St → Prop} (i : Nat) (n : Nat) {t : TypeId} {sz : Nat} {rs : List (List D)} (hi : σ.h[i]? = some (some (.rows t sz rs))) (h : W cx c ⟨σ.t, σ.h.set i (some (.rows t sz (rs.take n)))⟩ Q) : W cx c σ Q := by
  intro μ a w hr
  have hlt : i < σ.h.length := (List.getElem?_eq_some_iff.1 hi).1
  have e : ∀ j, St.H ⟨σ.t, σ.h.set i (some (.rows t sz (rs.take n)))⟩ j = if j = i then some (.rows t sz (rs.take n)) else σ.H j := by
    intro j
    simp only [St.H, List.getElem?_set]
    by_cases hj : i = j
    · subst hj; simp [hlt]
    · rw [if_neg hj, if_neg (fun h => hj h.symm)]
  have e0 : σ.H i = some (.rows t sz rs) := by simp [St.H, hi]
  have en : ∀ j, St.H ⟨σ.t, σ.h.set i (some (.rows t sz (rs.take n)))⟩ j ≠ none ↔ σ.H j ≠ none := by
    intro j
    rw [e j]
    by_cases hj : j = i
    · subst hj; simp [e0]
    · rw [if_neg hj]
  have es : cx.Sta (St.H ⟨σ.t, σ.h.set i (some (.rows t sz (rs.take n)))⟩) μ w = cx.Sta σ.H μ w := by
    funext b
    simp only [Cx.Sta, en]
  refine h μ a w ⟨⟨hr.rr.n, hr.rr.dfr, ?_, ?_, ?_, ?_, hr.rr.fr, hr.rr.vlt, hr.rr.blt⟩, fun j hj => hr.mu j (by simpa using hj), hr.bor, by simpa using hr.kle⟩
  · rw [es]; exact hr.rr.tm
  · intro j o ho
    rw [es]
    rw [e j] at ho
    by_cases hj : j = i
    · subst hj; rw [if_pos rfl] at ho; injection ho with ho; subst ho
      exact obrep_take n (hr.rr.ob _ _ e0)
    · rw [if_neg hj] at ho; exact hr.rr.ob j o ho
  · intro j b hj; exact hr.rr.own j b ((en j).1 hj)
  · intro j k b hj hk; exact hr.rr.inj j k b ((en j).1 hj) ((en k).1 hk)

def scopeQ (Q : Exit → St → Prop) : Exit → St → Prop
  | .normal, σ => Q .normal σ
  | .exit i, σ => Q (.exit i) σ
  | .goto _, _ => False
  | .ret, σ => Q .ret σ
  | .panic c, σ => Q (.panic c) σ
  | .outgrown, σ => Q .outgrown σ
attribute [go_sem] scopeQ
theorem W_scope {cx : Cx} {x : Code} {σ : St} {Q : Exit → St → Prop} (h : W cx x σ (scopeQ Q)) : W cx (.scope x) σ Q := by
  intro μ a w hr
  refine wp_scope_straight (wp_mono (h μ a w hr) ?_)
  rintro e a' w' ⟨σ', μ', h1, h2⟩
  cases e with
  | goto l => exact h1.elim
  | _ => exact ⟨σ', μ', h1, h2⟩
end Go.Proofs.YtnclclpfmldocaaGreat

/- Engine, part Q: contracts of the old walks over slices, as contracts of the engine. -/
namespace Go.Proofs.YtnclclpfmldocaaGreat
open Go.RowKit

theorem data_rd {α : Type} {encV : α → List Value} {encD : α → List D} {sz : Nat} {w : World} {S : Nat → Prop} {v : Value} {l : List α} (hlen : ∀ x, (encD x).length = sz) (hv : ∀ x, encV x = (encD x).map valD) (hsc : ∀ x, ∀ d ∈ encD x, scalD d = true)
    (hS : ∀ b, S b → b < w.heap.size) (h : RepD w S (.sl (l.map encD)) v) : Rd encV sz w v l := by
  generalize hr : l.map encD = rows at h
  cases h with
  | nil =>
    have : l = [] := by simpa using hr
    subst this
    exact ⟨_, _, rfl, Nat.zero_le _, fun h => absurd h (by simp)⟩
  | sl f hb hc hsz hcell hrep =>
    rename_i b off c sz'
    have hll : rows.length = l.length := by rw [← hr]; simp
    refine ⟨_, c, by rw [hll], by omega, fun h0 => ⟨b, off, rfl, hS b hb, fun i x hi j u hu => ?_⟩⟩
    have hri : rows[i]? = some (encD x) := by rw [← hr, List.getElem?_map, hi]; rfl
    have hsz' : sz = sz' := by rw [← hlen x]; exact hsz i _ hri
    subst hsz'
    rw [hv, List.getElem?_map] at hu
    cases hd : (encD x)[j]? with
    | none => simp [hd] at hu
    | some d =>
      simp [hd] at hu; subst hu
      rw [hcell i j _ d hri hd]
      exact congrArg some (valD_rep (hsc x d (List.mem_of_getElem? hd)) (hrep i j _ d hri hd))

/-- an old contract's row as a result of the engine -/
theorem out_row {α : Type} {P : Program} {al : Bool} {encV : α → List Value} {encD : α → List D} {sz : Nat} {e : TypeId} {V Bo : Nat → Prop} {μ : Mu} {w w' : World} {args : List AV} {vals : Array Value} {v : Value} {l : List α} (n : Int)
    (hsz : 0 < sz) (hlen : ∀ x, (encD x).length = sz) (hv : ∀ x, encV x = (encD x).map valD) (hsc : ∀ x, ∀ d ∈ encD x, scalD d = true)
    (hin : In V Bo μ w args [] vals) (ho : Own encV sz w.heap.size e w' v l) (hb : Below w.heap.size w w') :
    ∃ μ', Out P al [] V Bo μ w 0 (.tup [.row 0 sz 0 l.length, .d (.int .i64 n)]) [.rows e sz (l.map encD)] (.tuple #[v, .int .i64 n]) w' μ' := by
  obtain ⟨nb, hnb, hrep⟩ := own_obj hsz hlen hv hsc ho
  have hbo : ∀ b, Bo b → b < w.heap.size := fun b hb => by obtain ⟨i, hi, _⟩ := hin.bo' b hb; simp at hi
  refine ⟨fun i => if i = 0 then some nb else none, ev_below hb hbo, fun i x hx => ?_, ?_, fun i o hi _ => ?_, fun i b _ h => ?_, fun i j b hi hj _ _ _ _ => ?_, fun i hi => ?_, by simp⟩
  · rw [hin.lt i (by simp)] at hx; cases hx
  · refine .tup rfl (fun j x u' hx hu => ?_)
    match j, hx, hu with
    | 0, hx, hu => simp at hx hu; subst hx hu; exact (hrep _ _ 0 (by simp)).1
    | 1, hx, hu => simp at hx hu; subst hx hu; exact .d .int
  · match i, hi with
    | 0, hi => simp at hi; subst hi; exact (hrep _ _ 0 (by simp)).2
  · by_cases h0' : i = 0
    · simp [h0'] at h; exact ⟨.inl (hnb b h).1, (hnb b h).2⟩
    · simp [h0'] at h
  · simp at hi hj; omega
  · simp at hi; have : i ≠ 0 := by omega
    simp [this]
/-- an old contract's nil as a result of the engine -/
theorem out_nil {P : Program} {al : Bool} {V Bo : Nat → Prop} {μ : Mu} {w w' : World} {args : List AV} {vals : Array Value} (n : Int) (hin : In V Bo μ w args [] vals) (hb : Below w.heap.size w w') :
    ∃ μ', Out P al [] V Bo μ w 0 (.tup [.nil, .d (.int .i64 n)]) [] (.tuple #[.slice none 0 0, .int .i64 n]) w' μ' := by
  have hbo : ∀ b, Bo b → b < w.heap.size := fun b hb => by obtain ⟨i, hi, _⟩ := hin.bo' b hb; simp at hi
  refine ⟨fun _ => none, ⟨ev_below hb hbo, fun i x hx => ?_, ?_, fun i o hi _ => ?_, fun i b _ h => ?_, fun i j b hi _ _ _ _ _ => ?_, fun i hi => rfl, by simp⟩⟩
  · rw [hin.lt i (by simp)] at hx; cases hx
  · refine .tup rfl (fun j x u' hx hu => ?_)
    match j, hx, hu with
    | 0, hx, hu => simp at hx hu; subst hx hu; exact .nil
    | 1, hx, hu => simp at hx hu; subst hx hu; exact .d .int
  · simp at hi
  · cases h
  · simp at hi
theorem one_val {V Bo : Nat → Prop} {μ : Mu} {w : World} {x : AV} {ins : List Ob} {vals : Array Value} (hin : In V Bo μ w [x] ins vals) : ∃ v, vals = #[v] ∧ Rep w V μ x v := by
  have h1 : vals.size = 1 := hin.n
  obtain ⟨v, rfl⟩ := Array.size_eq_one_iff.1 h1
  exact ⟨v, rfl, hin.rep 0 x v rfl rfl⟩
end Go.Proofs.YtnclclpfmldocaaGreat

/- Engine, part S: the object of a call's first argument is lent. -/
namespace Go.Proofs.YtnclclpfmldocaaGreat
open Go.RowKit

theorem callV_row {P : Program} {n : Nat} {oo : Oper} {σ : St} {f : FuncId} {caps xs : List AV} {K : Eff → Prop} {i sz o len : Nat} (s : Spec) (hok : Ok P f s)
    (h : lendAs [i] σ.H ((.row i sz o len :: xs) ++ caps) fun ys rd => insV [i] σ.H [i] fun ins => alOk s rd ∧ disj [i] rd = true ∧ ∃ res outs, s.rel ys ins res outs ∧ K (lendE σ.h.length [i] s.dead res outs rd)) : callV P n oo σ (.fn f caps) (.row i sz o len :: xs) K := callV_lend s [i] hok (by simp [distinct]) h
theorem callV_ptr {P : Program} {n : Nat} {oo : Oper} {σ : St} {f : FuncId} {caps xs : List AV} {K : Eff → Prop} {i off : Nat} (s : Spec) (hok : Ok P f s)
    (h : lendAs [i] σ.H ((.ptr i off :: xs) ++ caps) fun ys rd => insV [i] σ.H [i] fun ins => alOk s rd ∧ disj [i] rd = true ∧ ∃ res outs, s.rel ys ins res outs ∧ K (lendE σ.h.length [i] s.dead res outs rd)) : callV P n oo σ (.fn f caps) (.ptr i off :: xs) K := callV_lend s [i] hok (by simp [distinct]) h
end Go.Proofs.YtnclclpfmldocaaGreat

/- Engine, part U: an object of the frame's own is given up and stands as pure data from then on. -/
namespace Go.Proofs.YtnclclpfmldocaaGreat
open Go.RowKit

def fzA (i sz : Nat) (rs : List (List D)) : AV → AV
  | .row j sz' o len => if j = i ∧ sz' = sz ∧ o + len ≤ rs.length then .d (.sl ((rs.drop o).take len)) else .row j sz' o len
  | x => x
def fzT (i sz : Nat) (rs : List (List D)) : List (Nat × AV) → List (Nat × AV)
  | [] => []
  | (s, x) :: l => (s, fzA i sz rs x) :: fzT i sz rs l
theorem fzT_look (i sz : Nat) (rs : List (List D)) : ∀ (t : List (Nat × AV)) (s : Nat) (y : AV), look (fzT i sz rs t) s = some y → ∃ x, look t s = some x ∧ y = fzA i sz rs x
  | [], s, y, h => by simp [fzT, look] at h
  | (q, x) :: l, s, y, h => by
    simp only [fzT, look] at h
    split at h
    · rename_i e; injection h with h; exact ⟨x, by simp [look, e], h.symm⟩
    · rename_i e
      obtain ⟨x', h1, h2⟩ := fzT_look i sz rs l s y h
      exact ⟨x', by simp [look, e, h1], h2⟩

theorem W_freeze {cx : Cx} {c : Code} {σ : St} {Q : Exit → St → Prop} (hBo : ∀ b, ¬ cx.Bo b) (i : Nat) {t : TypeId} {sz : Nat} {rs : List (List D)} (hi : σ.h[i]? = some (some (.rows t sz rs))) (h : W cx c ⟨fzT i sz rs σ.t, σ.h.set i none⟩ Q) : W cx c σ Q := by
  intro μ a w hr
  have hlt : i < σ.h.length := (List.getElem?_eq_some_iff.1 hi).1
  have eH : ∀ j, St.H ⟨fzT i sz rs σ.t, σ.h.set i none⟩ j = if j = i then none else σ.H j := by
    intro j
    simp only [St.H, List.getElem?_set]
    by_cases hj : i = j
    · subst hj; simp [hlt]
    · rw [if_neg hj, if_neg (fun h => hj h.symm)]
  have e0 : σ.H i = some (.rows t sz rs) := by simp [St.H, hi]
  have sub : ∀ j, St.H ⟨fzT i sz rs σ.t, σ.h.set i none⟩ j ≠ none → σ.H j ≠ none ∧ j ≠ i := by
    intro j hj
    rw [eH] at hj
    by_cases e : j = i
    · rw [if_pos e] at hj; exact absurd rfl hj
    · rw [if_neg e] at hj; exact ⟨hj, e⟩
  have hS : ∀ b, cx.Sta σ.H μ w b → cx.Sta (St.H ⟨fzT i sz rs σ.t, σ.h.set i none⟩) μ w b := by
    rintro b (hv | ⟨h1, h2, h3, h4⟩)
    · exact .inl hv
    · exact .inr ⟨h1, h2, h3, fun j hj he => h4 j (sub j hj).1 he⟩
  have ev0 := Ev.refl w (fun _ => False)
  refine h μ a w ⟨⟨hr.rr.n, hr.rr.dfr, fun s y hy => ?_, fun j o ho => ?_, fun j b hj hb => hr.rr.own j b (sub j hj).1 hb, fun j k b hj hk => hr.rr.inj j k b (sub j hj).1 (sub k hk).1, hr.rr.fr, hr.rr.vlt, hr.rr.blt⟩, fun j hj => hr.mu j (by simpa using hj), hr.bor, by simpa using hr.kle⟩
  · obtain ⟨x, hx, rfl⟩ := fzT_look i sz rs σ.t s y hy
    obtain ⟨v, h1, h2⟩ := hr.rr.tm s x hx
    refine ⟨v, h1, ?_⟩
    cases x with
    | row j sz' o len =>
      simp only [fzA]
      split
      · rename_i hc
        obtain ⟨rfl, rfl, hol⟩ := hc
        cases h2 with
        | rowNil hb =>
          have e : (rs.drop 0).take 0 = ([] : List (List D)) := by simp
          rw [e]; exact .d .nil
        | row hb b2 b3 b4 b5 =>
          rename_i b c' arr tt
          refine .d (snap_rows hr.rr e0 hb hS (.inr ⟨?_, heap_lt b2, hBo b, fun k hk he => ?_⟩) (by simp; omega) b3 b4)
          · rcases (hr.rr.own j b (by rw [e0]; simp) hb).1 with h3 | h3
            · exact h3
            · exact absurd h3 (hBo b)
          · have hk2 := sub k hk
            exact hk2.2 (hr.rr.inj k j b hk2.1 (by rw [e0]; simp) he hb)
      · exact h2.evolve ev0 (fun _ h => h.elim) hS (fun _ _ h => h)
    | _ => exact h2.evolve ev0 (fun _ h => h.elim) hS (fun _ _ h => h)
  · rw [eH] at ho
    by_cases e : j = i
    · rw [if_pos e] at ho; cases ho
    · rw [if_neg e] at ho
      exact (hr.rr.ob j o ho).evolve ev0 (fun _ h => h.elim) hS (fun _ _ h => h) (fun _ _ h => h)

end Go.Proofs.YtnclclpfmldocaaGreat
