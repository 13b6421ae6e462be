import Derived.Test.YtpocnjliigjidaaGreatEngN
import Derived.Test.YtpocnjliigjidaaGreatFlQ
import Derived.LoopN
import Derived.Test.YtpocnjliigjidaaGreatTL
import Derived.Lib.Overlaps
/- Engine, part O: contracts that were proved by other means, as contracts of the engine; equality at struct types. -/
namespace Go.Proofs.YtpocnjliigjidaaGreat
open Go.RowKit
theorem kinds_int {l : List AV} {k : IntKind} {ks : List (Option IntKind)} (h : kindsOf l = some (some k :: ks)) : ∃ n l', l = .d (.int k n) :: l' ∧ kindsOf l' = some ks := by
  match l, h with
  | [], h => simp [kindsOf] at h
  | .d (.int k' n) :: l', h =>
    simp only [kindsOf, Option.map_eq_some_iff] at h
    obtain ⟨a, h1, h2⟩ := h
    injection h2 with h2 h3; injection h2 with h2; subst h2 h3
    exact ⟨n, l', rfl, h1⟩
  | .d (.bool b) :: l', h =>
    simp only [kindsOf, Option.map_eq_some_iff] at h
    obtain ⟨a, h1, h2⟩ := h
    injection h2 with h2 h3; cases h2
theorem kinds_nil {l : List AV} (h : kindsOf l = some []) : l = [] := by
  match l, h with
  | [], _ => rfl
  | .d (.bool b) :: l', h => simp [kindsOf] at h
  | .d (.int k' n) :: l', h => simp [kindsOf] at h
theorem ev_below {w w' : World} {Bo : Nat → Prop} (h : Below w.heap.size w w') (hbo : ∀ b, Bo b → b < w.heap.size) : Ev w w' Bo :=
  ⟨h.os, h.tape, h.output, h.size, fun b hb _ => h.block b hb, fun b arr _ _ hb hh => ⟨arr, (h.block b (hbo b hb)).trans hh, rfl⟩⟩
theorem own_obj {α : Type} {encV : α → List Value} {encD : α → List D} {sz base : Nat} {e : TypeId} {w : World} {v : Value} {l : List α} (hsz : 0 < sz) (hlen : ∀ x, (encD x).length = sz) (hv : ∀ x, encV x = (encD x).map valD) (hsc : ∀ x, ∀ d ∈ encD x, scalD d = true)
    (h : Own encV sz base e w v l) : ∃ nb : Option Nat, (∀ b, nb = some b → base ≤ b ∧ b < w.heap.size) ∧ ∀ (S : Nat → Prop) (μ : Mu) (i : Nat), μ i = some nb → Rep w S μ (.row i sz 0 l.length) v ∧ ObRep w S μ i (.rows e sz (l.map encD)) := by
  obtain ⟨h1, h2⟩ := h
  rcases h2 with ⟨rfl, hn⟩ | ⟨g, cap, cur, rfl, hg, hh, hnc, hcm, hcs, ht⟩
  · have : l = [] := List.eq_nil_of_length_eq_zero hn
    subst this
    exact ⟨none, (fun b h => by cases h), fun S μ i hi => ⟨.rowNil hi, .rowsNil hi hsz⟩⟩
  · refine ⟨some g, fun b hb => by injection hb with hb; subst hb; exact ⟨hg, heap_lt hh⟩, fun S μ i hi => ⟨?_, ?_⟩⟩
    · have := Rep.row (w := w) (S := S) (μ := μ) (i := i) (sz := sz) (o := 0) (len := l.length) hi hh hnc hcm (by rw [hcs]; simp)
      simpa using this
    · refine .rows hi hh hsz (by simp; rw [hcs]; exact Nat.mul_le_mul_right _ hnc) (fun k r hr => ?_) (fun k j r x u hr hx hu => ?_)
      · simp at hr; obtain ⟨y, _, rfl⟩ := hr; exact hlen y
      · simp at hr
        obtain ⟨y, hy, rfl⟩ := hr
        have hjs : j < sz := by rw [← hlen y]; exact (List.getElem?_eq_some_iff.1 hx).1
        have hk : k < l.length := (List.getElem?_eq_some_iff.1 hy).1
        have hlt : k * sz + j < l.length * sz := by
          have : (k + 1) * sz ≤ l.length * sz := Nat.mul_le_mul_right _ hk
          rw [Nat.add_mul, Nat.one_mul] at this; omega
        have hf := flat_get (enc := encV) (sz := sz) (fun x => by rw [hv]; simp [hlen]) l k y hy j (valD x) (by rw [hv]; simp [hx])
        have hu' : (l.flatMap encV)[k * sz + j]? = some u := by
          rw [← ht, List.getElem?_take, if_pos hlt]; simpa using hu
        rw [hf] at hu'; injection hu' with hu'; subst hu'
        exact rep_valD (hsc y x (List.mem_of_getElem? hx))
theorem law_calls {P : Program} {f : FuncId} {s : Spec} (hok : Ok P f s) (args : List AV) (w : World) (vals : Array Value) (hrel : s.rel args [] (.d (.bool true)) []) (hn : vals.size = args.length)
    (hrep : ∀ (j : Nat) (x : AV) (v : Value), args[j]? = some x → vals[j]? = some v → Rep w (fun b => b < w.heap.size) (fun _ => none) x v) :
    Calls P f vals w fun e w' => e = .returned (.bool true) ∧ Below w.heap.size w w' := by
  refine (hok.2 args [] _ [] hrel w (fun b => b < w.heap.size) (fun _ => False) (fun _ => none) vals ⟨fun b hb => ⟨hb, fun h => h⟩, hn, hrep, by simp, by simp, fun _ h => h.elim, by simp, fun _ _ => rfl⟩).mono ?_
  rintro e w' ⟨v, μ', rfl, ho⟩
  have hv := ho.res
  cases hv with
  | d hv =>
    cases hv
    exact ⟨rfl, ho.ev.os, ho.ev.tape, ho.ev.output, ho.ev.size, fun b hb => ho.ev.block b hb (fun h => h)⟩
end Go.Proofs.YtpocnjliigjidaaGreat
namespace Go.Proofs.YtpocnjliigjidaaGreat
open Go.RowKit
def scopeQ (Q : Exit → St → Prop) : Exit → St → Prop
  | .normal, σ => Q .normal σ
  | .exit i, σ => Q (.exit i) σ
  | .goto _, _ => False
  | .ret, σ => Q .ret σ
  | .panic c, σ => Q (.panic c) σ
  | .outgrown, σ => Q .outgrown σ
attribute [go_sem] scopeQ
end Go.Proofs.YtpocnjliigjidaaGreat
namespace Go.Proofs.YtpocnjliigjidaaGreat
open Go.RowKit
end Go.Proofs.YtpocnjliigjidaaGreat
namespace Go.Proofs.YtpocnjliigjidaaGreat
open Go.RowKit
end Go.Proofs.YtpocnjliigjidaaGreat
namespace Go.Proofs.YtpocnjliigjidaaGreat
open Go.RowKit
def fzA (i sz : Nat) (rs : List (List D)) : AV → AV
  | .row j sz' o len => if j = i ∧ sz' = sz ∧ o + len ≤ rs.length then .d (.sl ((rs.drop o).take len)) else .row j sz' o len
  | x => x
def fzT (i sz : Nat) (rs : List (List D)) : List (Nat × AV) → List (Nat × AV)
  | [] => []
  | (s, x) :: l => (s, fzA i sz rs x) :: fzT i sz rs l
theorem fzT_look (i sz : Nat) (rs : List (List D)) : ∀ (t : List (Nat × AV)) (s : Nat) (y : AV), look (fzT i sz rs t) s = some y → ∃ x, look t s = some x ∧ y = fzA i sz rs x
  | [], s, y, h => by simp [fzT, look] at h
  | (q, x) :: l, s, y, h => by
    simp only [fzT, look] at h
    split at h
    · rename_i e; injection h with h; exact ⟨x, by simp [look, e], h.symm⟩
    · rename_i e
      obtain ⟨x', h1, h2⟩ := fzT_look i sz rs l s y h
      exact ⟨x', by simp [look, e, h1], h2⟩
end Go.Proofs.YtpocnjliigjidaaGreat
namespace Go.Proofs.YtpocnjliigjidaaGreat
open Go.RowKit
set_option linter.unusedSimpArgs false
set_option linter.unusedVariables false
def Wn (cx : Cx) (c : Code) (Q : Exit → St → Prop) : Nat → St → Prop
  | 0, _ => False
  | n + 1, σ => W cx c σ (thenQ (fun σ' => Wn cx c Q n σ') Q)
theorem Wn_rounds {cx : Cx} {c : Code} {Q : Exit → St → Prop} : ∀ (n : Nat) (σ : St), Wn cx c Q n σ → ∀ μ a w, RRs cx σ μ a w → Code.rounds cx.P c (fun e a' w' => ∃ σ' μ', Q e σ' ∧ RRs cx σ' μ' a' w') n a w
  | 0, _, h, _, _, _, _ => h.elim
  | n + 1, σ, h, μ, a, w, hr => by
    rw [rounds_succ]
    refine wp_mono (h μ a w hr) ?_
    rintro e a' w' ⟨σ', μ', h1, h2⟩
    cases e with
    | normal => exact Wn_rounds n σ' h1 μ' a' w' h2
    | _ => exact ⟨σ', μ', h1, h2⟩
theorem W_rounds {cx : Cx} {c : Code} {σ : St} {Q : Exit → St → Prop} (n : Nat) (h : Wn cx c Q n σ) : W cx (.loop c) σ Q := fun μ a w hr => wp_loop_rounds n (Wn_rounds n σ h μ a w hr)
theorem Wn_succ {cx : Cx} {c : Code} {σ : St} {Q : Exit → St → Prop} {n : Nat} (h : W cx c σ (thenQ (fun σ' => Wn cx c Q n σ') Q)) : Wn cx c Q (n + 1) σ := h
end Go.Proofs.YtpocnjliigjidaaGreat
namespace Go.Proofs.YtpocnjliigjidaaGreat
open Go.RowKit
set_option linter.unusedSimpArgs false
set_option linter.unusedVariables false
theorem frz_rows {w : World} {S V' : Nat → Prop} {μ : Mu} {i sz o len b c : Nat} {t : TypeId} {rs : List (List D)} (hob : ObRep w S μ i (.rows t sz rs)) (hb : μ i = some (some b)) (hV : ∀ b, S b → V' b) (hVb : V' b)
    (hlen : (((rs.drop o).take len).length = len)) (hc : len ≤ c) : RepD w V' (.sl ((rs.drop o).take len)) (.slice (some ⟨b, o * sz, none⟩) len c) := by
  cases hob with
  | rowsNil b1 _ => rw [hb] at b1; cases b1
  | rows b1 b2 b3 b4 b5 b6 =>
    rename_i b' arr
    rw [hb] at b1; injection b1 with b1; injection b1 with b1; subst b1
    have get : ∀ (p : Nat) (r : List D), ((rs.drop o).take len)[p]? = some r → rs[o + p]? = some r := by
      intro p r hp
      rw [List.getElem?_take] at hp
      split at hp
      · rwa [List.getElem?_drop] at hp
      · cases hp
    have hl : .slice (some ⟨b, o * sz, none⟩) len c = Value.slice (some ⟨b, o * sz, none⟩) ((rs.drop o).take len).length c := by rw [hlen]
    rw [hl]
    have cell : ∀ (p j : Nat) (r : List D) (x : D), ((rs.drop o).take len)[p]? = some r → r[j]? = some x → (o + p) * sz + j < arr.size := by
      intro p j r x hp hj
      have h1 := get p r hp
      have h2 : o + p < rs.length := (List.getElem?_eq_some_iff.1 h1).1
      have h3 := b5 _ _ h1
      have h4 : j < sz := by rw [← h3]; exact (List.getElem?_eq_some_iff.1 hj).1
      have : (o + p + 1) * sz ≤ rs.length * sz := Nat.mul_le_mul_right _ h2
      rw [Nat.add_mul, Nat.one_mul] at this; omega
    refine .sl (sz := sz) (fun p j => arr.getD ((o + p) * sz + j) undef) hVb (by rw [hlen]; exact hc) (fun p r hp => b5 _ _ (get p r hp)) (fun p j r x hp hj => ?_) (fun p j r x hp hj => ?_)
    · have hlt := cell p j r x hp hj
      have e : o * sz + p * sz + j = (o + p) * sz + j := by rw [Nat.add_mul]
      rw [e]
      simp [World.cell?, b2, hlt]
    · have hlt := cell p j r x hp hj
      have := b6 (o + p) j r x arr[(o + p) * sz + j] (get p r hp) hj (by simp [hlt])
      have e : arr.getD ((o + p) * sz + j) undef = arr[(o + p) * sz + j] := by simp [hlt]
      rw [e]
      exact this.evolve (Ev.refl w (fun _ => False)) (fun _ h => h.elim) hV
def frz1 (outs : List Ob) : AV → Option AV
  | .d x => some (.d x)
  | .nil => some (.d (.sl []))
  | .row i sz o len => match outs[i]? with
    | some (.rows _ sz' rs) => if sz' = sz ∧ o + len ≤ rs.length then some (.d (.sl ((rs.drop o).take len))) else none
    | _ => none
  | _ => none
def frzL (outs : List Ob) : List AV → Option (List AV)
  | [] => some []
  | x :: l => (frz1 outs x).bind fun y => (frzL outs l).map (y :: ·)
def frzA (outs : List Ob) : AV → Option AV
  | .agg cs => (frzL outs cs).map .agg
  | x => frz1 outs x
def frzAL (outs : List Ob) : List AV → Option (List AV)
  | [] => some []
  | x :: l => (frzA outs x).bind fun y => (frzAL outs l).map (y :: ·)
def frz (outs : List Ob) : AV → Option AV
  | .tup xs => (frzAL outs xs).map .tup
  | x => frzA outs x
theorem frzL_get {outs : List Ob} : ∀ {l m : List AV}, frzL outs l = some m → m.length = l.length ∧ ∀ (j : Nat) (x y : AV), l[j]? = some x → m[j]? = some y → frz1 outs x = some y
  | [], m, h => by simp [frzL] at h; subst h; simp
  | z :: l, m, h => by
    simp only [frzL, Option.bind_eq_some_iff, Option.map_eq_some_iff] at h
    obtain ⟨y, hy, m', hm, rfl⟩ := h
    obtain ⟨h1, h2⟩ := frzL_get hm
    refine ⟨by simp [h1], fun j x y' hx hy' => ?_⟩
    cases j with
    | zero => simp at hx hy'; subst hx hy'; exact hy
    | succ j => simp at hx hy'; exact h2 j x y' hx hy'
theorem frzAL_get {outs : List Ob} : ∀ {l m : List AV}, frzAL outs l = some m → m.length = l.length ∧ ∀ (j : Nat) (x y : AV), l[j]? = some x → m[j]? = some y → frzA outs x = some y
  | [], m, h => by simp [frzAL] at h; subst h; simp
  | z :: l, m, h => by
    simp only [frzAL, Option.bind_eq_some_iff, Option.map_eq_some_iff] at h
    obtain ⟨y, hy, m', hm, rfl⟩ := h
    obtain ⟨h1, h2⟩ := frzAL_get hm
    refine ⟨by simp [h1], fun j x y' hx hy' => ?_⟩
    cases j with
    | zero => simp at hx hy'; subst hx hy'; exact hy
    | succ j => simp at hx hy'; exact h2 j x y' hx hy'
section
variable {w : World} {S V' : Nat → Prop} {μ : Mu} {outs : List Ob}
theorem frz1_rep (hob : ∀ i o, outs[i]? = some o → ObRep w S μ i o) (hV : ∀ b, S b → V' b) (hnew : ∀ i b, μ i = some (some b) → V' b) {x y : AV} {v : Value} (h : frz1 outs x = some y) (hr : Rep w S μ x v) (μ0 : Mu) : Rep w V' μ0 y v := by
  cases hr with
  | d hd => simp [frz1] at h; subst h; exact .d (hd.evolve (Ev.refl w (fun _ => False)) (fun _ h => h.elim) hV)
  | nil => simp [frz1] at h; subst h; exact .d .nil
  | @rowNil i sz h1 =>
    simp only [frz1] at h
    split at h
    · split at h
      · injection h with h; subst h; simpa using Rep.d (.nil)
      · cases h
    · cases h
  | @row i sz o len b c arr t h1 h2 h3 h4 h5 =>
    simp only [frz1] at h
    split at h
    · rename_i t' sz' rs hi
      split at h
      · rename_i hc
        obtain ⟨rfl, hl⟩ := hc
        injection h with h; subst h
        exact .d (frz_rows (hob i _ hi) h1 hV (hnew i b h1) (by simp; omega) h3)
      · cases h
    · cases h
  | _ => simp [frz1] at h
theorem frzA_rep (hob : ∀ i o, outs[i]? = some o → ObRep w S μ i o) (hV : ∀ b, S b → V' b) (hnew : ∀ i b, μ i = some (some b) → V' b) {x y : AV} {v : Value} (h : frzA outs x = some y) (hr : Rep w S μ x v) (μ0 : Mu) : Rep w V' μ0 y v := by
  by_cases hx : ∃ cs, x = .agg cs
  · obtain ⟨cs, rfl⟩ := hx
    simp only [frzA, Option.map_eq_some_iff] at h
    obtain ⟨m, hm, rfl⟩ := h
    obtain ⟨hl, hg⟩ := frzL_get hm
    cases hr with
    | agg h1 h2 h3 =>
      refine .agg (by omega) (fun j y u hy hu => ?_) h3
      have hj : j < cs.length := by rw [← hl]; exact (List.getElem?_eq_some_iff.1 hy).1
      exact frz1_rep hob hV hnew (hg j _ y (List.getElem?_eq_getElem hj) hy) (h2 j _ u (List.getElem?_eq_getElem hj) hu) μ0
  · have : frzA outs x = frz1 outs x := by
      cases x <;> first | rfl | exact absurd ⟨_, rfl⟩ hx
    rw [this] at h
    exact frz1_rep hob hV hnew h hr μ0
theorem frz_rep (hob : ∀ i o, outs[i]? = some o → ObRep w S μ i o) (hV : ∀ b, S b → V' b) (hnew : ∀ i b, μ i = some (some b) → V' b) {x y : AV} {v : Value} (h : frz outs x = some y) (hr : Rep w S μ x v) (μ0 : Mu) : Rep w V' μ0 y v := by
  by_cases hx : ∃ cs, x = .tup cs
  · obtain ⟨cs, rfl⟩ := hx
    simp only [frz, Option.map_eq_some_iff] at h
    obtain ⟨m, hm, rfl⟩ := h
    obtain ⟨hl, hg⟩ := frzAL_get hm
    cases hr with
    | tup h1 h2 =>
      refine .tup (by omega) (fun j y u hy hu => ?_)
      have hj : j < cs.length := by rw [← hl]; exact (List.getElem?_eq_some_iff.1 hy).1
      exact frzA_rep hob hV hnew (hg j _ y (List.getElem?_eq_getElem hj) hy) (h2 j _ u (List.getElem?_eq_getElem hj) hu) μ0
  · have : frz outs x = frzA outs x := by
      cases x <;> first | rfl | exact absurd ⟨_, rfl⟩ hx
    rw [this] at h
    exact frzA_rep hob hV hnew h hr μ0
end
theorem ok_frz {P : Program} {f : FuncId} {s : Spec} (hok : Ok P f s) (s' : Spec) (hal : s'.al = true)
    (h : ∀ args ins res' outs', s'.rel args ins res' outs' → ins = [] ∧ outs' = [] ∧ ∃ res outs, s.rel args [] res outs ∧ frz outs res = some res') : Ok P f s' := by
  refine ⟨hok.1, ?_⟩
  intro args ins res' outs' hrel w V Bo μ vals hin
  obtain ⟨rfl, rfl, res, outs, hr, hf⟩ := h _ _ _ _ hrel
  refine (hok.2 args [] res outs hr w V Bo μ vals hin).mono ?_
  rintro e w' ⟨v, μ', rfl, ho⟩
  refine ⟨v, fun _ => none, rfl, ho.ev, fun i x hx => ?_, ?_, (by simp), (fun i b _ h => by cases h), (by simp), (fun _ _ => rfl), Nat.le_refl _⟩
  · rw [hin.lt i (by simp)] at hx; cases hx
  · refine frz_rep (S := outS s.al V w w' μ' outs.length) (fun i o hi => ho.ob i o hi (.inl (Nat.zero_le _))) (fun b hb => ?_) (fun i b hb => ?_) hf ho.res _
    · rcases hb with ⟨_, hv⟩ | ⟨h1, h2, _⟩
      · exact .inl ⟨hal, hv⟩
      · exact .inr ⟨h1, h2, fun i hi => absurd hi (by simp)⟩
    · have := ho.new i b (Nat.zero_le _) hb
      refine .inr ⟨?_, this.2, fun i hi => absurd hi (by simp)⟩
      rcases this.1 with h1 | ⟨j, hj, _⟩
      · exact h1
      · exact absurd hj (by simp)
attribute [go_sem] frz frzA frzAL frzL frz1
end Go.Proofs.YtpocnjliigjidaaGreat
namespace Go.Proofs.YtpocnjliigjidaaGreat
open Go.RowKit
set_option linter.unusedSimpArgs false
set_option linter.unusedVariables false
abbrev iv (n : Int) : AV := .d (.int .i64 n)
abbrev bv (b : Bool) : AV := .d (.bool b)
abbrev wv (u : Int) : AV := .d (.int .u64 u)
def encDI (n : Int) : List D := [.int .i64 n]
def encDB (b : Bool) : List D := [.bool b]
abbrev dI (l : List Int) : AV := .d (.sl (l.map encDI))
structure Enc {α : Type} (enc : α → List D) (sz : Nat) : Prop where
  len : ∀ x, (enc x).length = sz
  sc : ∀ x, ∀ d ∈ enc x, scalD d = true
theorem scal_flat {d : D} (h : scalD d = true) : flatD d := by cases d <;> first | trivial | (simp [scalD] at h)
theorem Enc.rows {α : Type} {enc : α → List D} {sz : Nat} (h : Enc enc sz) (l : List α) : ∀ r ∈ l.map enc, r.length = sz := by
  intro r hr
  obtain ⟨x, _, rfl⟩ := List.mem_map.1 hr
  exact h.len x
theorem Enc.flat {α : Type} {enc : α → List D} {sz : Nat} (h : Enc enc sz) (l : List α) : ∀ r ∈ l.map enc, ∀ x ∈ r, flatD x := by
  intro r hr x hx
  obtain ⟨y, _, rfl⟩ := List.mem_map.1 hr
  exact scal_flat (h.sc y x hx)
theorem encI : Enc encDI 1 := ⟨fun _ => rfl, fun x d hd => by simp only [encDI, List.mem_singleton] at hd; subst hd; rfl⟩
theorem encB : Enc encDB 1 := ⟨fun _ => rfl, fun x d hd => by simp only [encDB, List.mem_singleton] at hd; subst hd; rfl⟩
theorem drop_get {α : Type} (l : List α) (k : Nat) (h : k < l.length) : l.drop k = l[k] :: l.drop (k + 1) := List.drop_eq_getElem_cons h
theorem take_get {α : Type} (l : List α) (k : Nat) (h : k < l.length) : l.take (k + 1) = l.take k ++ [l[k]] := List.take_succ_eq_append_getElem h
end Go.Proofs.YtpocnjliigjidaaGreat
namespace Go.Proofs.YtpocnjliigjidaaGreat
set_option linter.unusedVariables false
open Go.RowKit
end Go.Proofs.YtpocnjliigjidaaGreat
namespace Go.Proofs.YtpocnjliigjidaaGreat
open Go.RowKit
set_option linter.unusedSimpArgs false
set_option linter.unusedVariables false
def mvR (i n j : Nat) : Nat := if j = i then n else j
def mvT (i n : Nat) : List (Nat × AV) → List (Nat × AV)
  | [] => []
  | (s, x) :: l => (s, x.ren (mvR i n)) :: mvT i n l
def mvH (i n : Nat) : List (Option Ob) → List (Option Ob)
  | [] => []
  | none :: l => none :: mvH i n l
  | some o :: l => some (o.ren (mvR i n)) :: mvH i n l
theorem W_adoptC {cx : Cx} {c : Code} {σ : St} {Q : Exit → St → Prop} (i p : Nat) {tb t : TypeId} {sz : Nat} {cs : List AV} (hsz : 0 < sz) (hi : σ.H i = some (.box tb cs)) (hp : cs[p]? = some .nil)
    (h : W cx c ⟨σ.t, σ.h.set i (some (.box tb (cs.set p (.row σ.h.length sz 0 0)))) ++ [some (.rows t sz [])]⟩ Q) : W cx c σ Q := by
  intro μ a w hr
  have hil : i < σ.h.length := by
    rcases Nat.lt_or_ge i σ.h.length with h' | h'
    · exact h'
    · simp [St.H, List.getElem?_eq_none h'] at hi
  generalize hn : σ.h.length = n at *
  have hmn : μ n = none := hr.mu n (by omega)
  have hμ : ∀ j y, μ j = some y → setMu μ n none j = some y := by
    intro j y hy
    have hjn : j ≠ n := by rintro rfl; rw [hmn] at hy; cases hy
    simp [setMu, hjn, hy]
  have eH : ∀ j, St.H ⟨σ.t, σ.h.set i (some (.box tb (cs.set p (.row n sz 0 0)))) ++ [some (.rows t sz [])]⟩ j = if j = n then some (.rows t sz []) else if j = i then some (.box tb (cs.set p (.row n sz 0 0))) else σ.H j := by
    intro j
    simp only [St.H]
    by_cases hj : j < n
    · rw [List.getElem?_append_left (by simp [hn, hj]), if_neg (by omega), List.getElem?_set]
      by_cases hji : i = j
      · subst hji; simp [hn, hj]
      · rw [if_neg hji, if_neg (fun h => hji h.symm)]
    · by_cases hjn : j = n
      · subst hjn; rw [List.getElem?_append_right (by simp [hn])]; simp [hn]
      · have h1 : σ.h[j]? = none := List.getElem?_eq_none (by omega)
        rw [List.getElem?_eq_none (by simp [hn]; omega), if_neg hjn, if_neg (by omega), h1]
  have sub : ∀ j, St.H ⟨σ.t, σ.h.set i (some (.box tb (cs.set p (.row n sz 0 0)))) ++ [some (.rows t sz [])]⟩ j ≠ none → j = n ∨ (j ≠ n ∧ σ.H j ≠ none) := by
    intro j hj
    rw [eH] at hj
    by_cases hjn : j = n
    · exact .inl hjn
    · rw [if_neg hjn] at hj
      by_cases hji : j = i
      · exact .inr ⟨hjn, by rw [hji, hi]; simp⟩
      · rw [if_neg hji] at hj; exact .inr ⟨hjn, hj⟩
  have hm' : ∀ j, j ≠ n → setMu μ n none j = μ j := fun j hj => by simp [setMu, hj]
  have hmn' : setMu μ n none n = some none := by simp [setMu]
  have hS : ∀ b, cx.Sta σ.H μ w b → cx.Sta (St.H ⟨σ.t, σ.h.set i (some (.box tb (cs.set p (.row n sz 0 0)))) ++ [some (.rows t sz [])]⟩) (setMu μ n none) w b := by
    rintro b (hv | ⟨h1, h2, h3, h4⟩)
    · exact .inl hv
    · refine .inr ⟨h1, h2, h3, fun j hj he => ?_⟩
      rcases sub j hj with rfl | ⟨hjn, hq⟩
      · rw [hmn'] at he; cases he
      · rw [hm' j hjn] at he; exact h4 j hq he
  have ev0 := Ev.refl w (fun _ => False)
  refine h (setMu μ n none) a w ⟨⟨hr.rr.n, hr.rr.dfr, fun s y hy => ?_, fun j o ho => ?_, fun j b hj hb => ?_, fun j k b hj hk hbj hbk => ?_, hr.rr.fr, hr.rr.vlt, hr.rr.blt⟩, fun j hj => ?_, fun j hj => ?_, ?_⟩
  · obtain ⟨v, h1, h2⟩ := hr.rr.tm s y hy
    exact ⟨v, h1, h2.evolve ev0 (fun _ h => h.elim) hS hμ⟩
  · rw [eH] at ho
    by_cases hjn : j = n
    · subst hjn
      rw [if_pos rfl] at ho; injection ho with ho; subst ho
      exact .rowsNil hmn' hsz
    · rw [if_neg hjn] at ho
      by_cases hji : j = i
      · subst hji
        rw [if_pos rfl] at ho; injection ho with ho; subst ho
        have h0 := hr.rr.ob j _ hi
        cases h0 with
        | box b1 b2 b3 b4 b5 =>
          refine .box (hμ _ _ b1) b2 (by simpa using b3) (fun q x v hx hv => ?_) b5
          rw [List.getElem?_set] at hx
          by_cases hpq : p = q
          · subst hpq
            have hlt : p < cs.length := (List.getElem?_eq_some_iff.1 hp).1
            simp [hlt] at hx; subst hx
            have := b4 p _ v hp hv
            cases this
            exact .rowNil hmn'
          · rw [if_neg hpq] at hx
            exact (b4 q x v hx hv).evolve ev0 (fun _ h => h.elim) hS hμ
      · rw [if_neg hji] at ho
        exact (hr.rr.ob j _ ho).evolve ev0 (fun _ h => h.elim) hS hμ (fun _ _ h => h)
  · rcases sub j hj with rfl | ⟨hjn, hq⟩
    · rw [hmn'] at hb; cases hb
    · rw [hm' j hjn] at hb; exact hr.rr.own j b hq hb
  · rcases sub j hj with rfl | ⟨hjn, hq⟩
    · rw [hmn'] at hbj; cases hbj
    · rcases sub k hk with rfl | ⟨hkn, hq2⟩
      · rw [hmn'] at hbk; cases hbk
      · rw [hm' j hjn] at hbj; rw [hm' k hkn] at hbk
        exact hr.rr.inj j k b hq hq2 hbj hbk
  · have : n + 1 ≤ j := by simpa [hn] using hj
    rw [hm' j (by omega)]
    exact hr.mu j (by omega)
  · rw [hm' j (by have := hr.kle; omega)]
    exact hr.bor j hj
  · simp [hn]; have := hr.kle; omega
attribute [go_sem] mvR mvT mvH
end Go.Proofs.YtpocnjliigjidaaGreat
