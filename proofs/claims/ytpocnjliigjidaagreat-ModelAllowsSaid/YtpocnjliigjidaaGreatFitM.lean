import Derived.Test.YtpocnjliigjidaaGreatRows
import Derived.Test.YtpocnjliigjidaaGreatFlQ
import Derived.ProofKit
import Derived.OpenShut
import Derived.Test.YtpocnjliigjidaaGreatEngY
import Derived.Deep.Slices
import Derived.DataShut
import Derived.Test.YtpocnjliigjidaaGreatEngZ
import Derived.Test.YtpocnjliigjidaaGreatMdX
/- The last step of every law: the call returned true, and below the old heap's size nothing has turned: then the row's post holds. -/
namespace Go.Proofs.YtpocnjliigjidaaGreat
open Go.RowKit Go.ChangeShapes Go.WideShapes Go.ChangeAt
theorem own_knob : ownKnob Tryz.prog.godebug = none := by kernel_rfl
theorem laid_out : laidOutB Tryz.prog = true := by kernel_rfl
section
variable {H : Type} {enc : TypeId × Value → H} {P : Program}
theorem trodAll_stays (hl : laidOutB P = true) {W W' : World} {sp' : Nat → Bool} : ∀ (ts : List TypeId) (vs : List Value) (ds : List (DataW H)) (ps : List MemPlace),
    (∀ t ∈ ts, P.readableRec t = true ∧ t < P.types.size) → DataW.TrodAll enc P W 0 (fun _ => true) true ts vs ds ps → (∀ p ∈ ps, W.sameAt W' p) → (∀ p ∈ ps, sp' p.block = true) →
    DataW.TrodAll enc P W' 0 sp' true ts vs ds ps
  | [], vs, ds, ps, _, h, _, _ => by
    obtain ⟨rfl, rfl, rfl⟩ := trodAll_nil h
    exact trodAll_mk0
  | t :: ts, vs, ds, ps, ht, h, hs, hp => by
    obtain ⟨v, vs', d, ds', p, q, rfl, rfl, rfl, h1, h2⟩ := trodAll_cons h
    obtain ⟨hr, hlt⟩ := ht t (by simp)
    exact trodAll_cons_mk (WideElems.Trod_stays hl hr hlt h1 (fun x hx => hs x (by simp [hx])) (fun x hx => hp x (by simp [hx])))
      (trodAll_stays hl ts vs' ds' q (fun u hu => ht u (by simp [hu])) h2 (fun x hx => hs x (by simp [hx])) (fun x hx => hp x (by simp [hx])))
theorem post_law {f : Func} {s : ChangeSpec} {W W' : World} {args : Array Value} {ds gs : List (DataW H)} {before : List MemPlace} {tb : TypeId}
    (hW : DataW.Whole enc P f.params.toList s.vars false W args.toList ds gs before) (hl : laidOutB P = true) (hr : f.params.toList.all (fun t => P.readableRec t && decide (t < P.types.size)) = true)
    (hv : s.vars = []) (h1 : (s.fn H (ds ++ gs)).results = [.lit (.bool true)]) (h2 : (s.fn H (ds ++ gs)).args = ds) (h3 : (s.fn H (ds ++ gs)).vars = [])
    (hres : f.resultTypes = #[tb]) (hbool : P.underlying tb = some .bool) (hb : Below W.heap.size W W') :
    s.post enc P f false true false false W args (.bool true) W' := by
  have hW' := hW
  obtain ⟨p, q, hA, hV, rfl, hfz, hnd⟩ := hW
  rw [hv] at hV
  obtain ⟨rfl, rfl⟩ := trodVars_none hV
  have hlt : ∀ x ∈ p ++ [], x.block < W.heap.size := fun x hx => hW'.lt x hx
  have hlt' : ∀ x ∈ p, x.block < W.heap.size := fun x hx => hlt x (by simpa using hx)
  refine ⟨ds, [], p ++ [], [], p, [], hW', ?_, ?_, ?_, World.keptBut_mono (fun x hx => ⟨hx, ?_⟩) (hb.frame (· ∈ p ++ [])), fun h => by cases h⟩
  · rw [h1, hres]
    exact trodAll_mk1 (shut_bool hbool true)
  · rw [h2]
    refine trodAll_stays hl _ _ _ _ (fun t ht => ?_) hA (fun x hx => hb.same (hlt' x hx)) (fun x hx => by simpa using hlt' x hx)
    have := List.all_eq_true.1 hr t ht
    simpa using this
  · rw [h3, hv]
    rfl
  · exact .inr (.inl (by simpa using hx))
end
end Go.Proofs.YtpocnjliigjidaaGreat
namespace Go.Proofs.YtpocnjliigjidaaGreat
open Go.RowKit Go.ChangeShapes Go.WideShapes Go.ChangeAt Go.Deep
inductive CSh where
  | int (k : IntKind)
  | bool
  | sl (cs : List CSh)
def shpF (P : Program) (g : TypeId → Option (List CSh)) : List Field → Nat → Option (List CSh)
  | [], _ => some []
  | f :: fs, off => if f.offset = off then (g f.type).bind fun c => if c.length = P.cellsOf f.type then (shpF P g fs (off + c.length)).map (c ++ ·) else none else none
def shp (P : Program) : Nat → TypeId → Option (List CSh)
  | 0, _ => none
  | n + 1, t => match P.underlying t with
    | some .bool => some [.bool]
    | some (.int k) => some [.int k]
    | some (.slice e) => (shp P n e).bind fun c => if c.length = P.cellsOf e ∧ 0 < c.length then some [.sl c] else none
    | some (.struct fs) => (shpF P (shp P n) fs.toList 0).bind fun c => if c.length = P.cellsOf t then some c else none
    | _ => none
mutual
def Fit : CSh → D → Prop
  | .int k, .int k' n => k' = k ∧ (Lit.int k n).wf = true
  | .bool, .bool _ => True
  | .sl cs, .sl rows => rows.length ≤ maxLen ∧ ∀ r ∈ rows, FitL cs r
  | _, _ => False
def FitL : List CSh → List D → Prop
  | [], [] => True
  | s :: l, d :: m => Fit s d ∧ FitL l m
  | _, _ => False
end
theorem FitL_len : ∀ {l : List CSh} {m : List D}, FitL l m → m.length = l.length
  | [], [], _ => rfl
  | _ :: l, _ :: m, h => by simp only [FitL] at h; simp [FitL_len h.2]
  | [], _ :: _, h => by simp [FitL] at h
  | _ :: _, [], h => by simp [FitL] at h
theorem FitL_app : ∀ {l l' : List CSh} {m m' : List D}, FitL l m → FitL l' m' → FitL (l ++ l') (m ++ m')
  | [], _, [], _, _, h => h
  | _ :: l, _, _ :: m, _, h, h' => by simp only [FitL] at h; simp only [List.cons_append, FitL]; exact ⟨h.1, FitL_app h.2 h'⟩
  | [], _, _ :: _, _, h, _ => by simp [FitL] at h
  | _ :: _, _, [], _, h, _ => by simp [FitL] at h
def Cells (W : World) (ds : List D) (cs : List Value) : Prop := cs.length = ds.length ∧ ∀ (j : Nat) (d : D) (v : Value), ds[j]? = some d → cs[j]? = some v → RepD W (fun b => b < W.heap.size) d v
theorem cells_app {W : World} {ds ds' : List D} {cs cs' : List Value} (h : Cells W ds cs) (h' : Cells W ds' cs') : Cells W (ds ++ ds') (cs ++ cs') := by
  refine ⟨by simp [h.1, h'.1], fun j d v hd hv => ?_⟩
  by_cases hj : j < ds.length
  · rw [List.getElem?_append_left hj] at hd
    rw [List.getElem?_append_left (by rw [h.1]; exact hj)] at hv
    exact h.2 j d v hd hv
  · rw [List.getElem?_append_right (by omega)] at hd
    rw [List.getElem?_append_right (by rw [h.1]; omega), h.1] at hv
    exact h'.2 _ d v hd hv
theorem cell_drop {W : World} {a : Addr} {v : Value} (h : W.cell? a = some v) : a.spot = none ∧ a.block < W.heap.size := ⟨World.cell?_spot h, World.block_lt_of_cell? _ _ h⟩
section
variable {H : Type} {enc : TypeId × Value → H} {P : Program} {W : World} {spare : Nat → Bool} {held : Bool}
theorem shp_open : ∀ (n : Nat) (t : TypeId) (sh : List CSh) (fuel : Nat) (cs : List Value) (x : DataW H × List MemPlace), shp P n t = some sh → DataW.trod enc P W 0 spare held fuel t cs = some x → ∃ ds, FitL sh ds ∧ Cells W ds cs
  | 0, t, sh, fuel, cs, x, h, _ => by simp [shp] at h
  | n + 1, t, sh, fuel, cs, x, h, hx => by
    have IH := fun t sh fuel cs x => shp_open n t sh fuel cs x
    simp only [shp] at h
    split at h
    · rename_i hu
      injection h with h; subst h
      obtain ⟨b, rfl, _⟩ := DataW.trod_bool hu hx
      refine ⟨[.bool b], by simp [FitL, Fit], rfl, fun j d v hd hv => ?_⟩
      cases j with
      | zero => simp at hd hv; subst hd hv; exact .bool
      | succ j => simp at hd
    · rename_i k hu
      injection h with h; subst h
      obtain ⟨m, rfl, _, hw⟩ := DataW.trod_int hu hx
      refine ⟨[.int k m], by simp [FitL, Fit, hw], rfl, fun j d v hd hv => ?_⟩
      cases j with
      | zero => simp at hd hv; subst hd hv; exact .int
      | succ j => simp at hd
    · rename_i e hu
      simp only [Option.bind_eq_some_iff] at h
      obtain ⟨c, hc, h⟩ := h
      split at h
      · rename_i hcl
        obtain ⟨hcl, hcp⟩ := hcl
        injection h with h; subst h
        rcases open_slice hu hx with ⟨rfl, _⟩ | ⟨a, len, cap, m, n', Dd, Pl, rfl, hb, hl, hm, hmm, _, hall⟩
        · refine ⟨[.sl []], by simp [FitL, Fit], rfl, fun j d v hd hv => ?_⟩
          cases j with
          | zero => simp at hd hv; subst hd hv; exact .nil
          | succ j => simp at hd
        · have hlm : len ≤ m := by rw [hmm]; split <;> omega
          have each : ∀ i : Fin len, ∃ r : List D, FitL c r ∧ ∀ (j : Nat) (d : D), r[j]? = some d → ∃ v, W.cell? (a.add (i.1 * P.cellsOf e + j)) = some v ∧ RepD W (fun b => b < W.heap.size) d v := by
            intro i
            obtain ⟨cs', h1, h2⟩ := hall i.1 (by omega)
            obtain ⟨_, hlen, hcell⟩ := World.cells?_some h1
            obtain ⟨r, hr1, hr2⟩ := IH e c n' cs' _ hc h2
            refine ⟨r, hr1, fun j d hd => ?_⟩
            have hj : j < r.length := (List.getElem?_eq_some_iff.1 hd).1
            have hjc : j < cs'.length := by rw [hr2.1]; exact hj
            refine ⟨cs'[j], ?_, hr2.2 j d _ hd (List.getElem?_eq_getElem hjc)⟩
            have := hcell j (by omega)
            rw [List.getElem?_eq_getElem hjc] at this
            rw [← this, add_add]
          obtain ⟨f, hf⟩ := Classical.axiomOfChoice each
          have hget : ∀ (i : Nat) (r : List D), (List.ofFn f)[i]? = some r → ∃ h : i < len, r = f ⟨i, h⟩ := by
            intro i r hr
            rw [List.getElem?_eq_some_iff] at hr
            obtain ⟨h1, h2⟩ := hr
            simp at h1 h2
            exact ⟨h1, h2.symm⟩
          refine ⟨[.sl (List.ofFn f)], ?_, rfl, fun j d v hd hv => ?_⟩
          · simp only [FitL, Fit, and_true]
            refine ⟨by simp; omega, fun r hr => ?_⟩
            obtain ⟨i, hi⟩ := List.getElem?_of_mem hr
            obtain ⟨h1, rfl⟩ := hget i r hi
            exact (hf ⟨i, h1⟩).1
          · cases j with
            | succ j => simp at hd
            | zero =>
              simp at hd hv; subst hd hv
              by_cases h0 : List.ofFn f = []
              · have : len = 0 := by have := congrArg List.length h0; simpa using this
                rw [h0, this]; exact .nil
              · have hpos : 0 < len := by
                  rcases Nat.eq_zero_or_pos len with h | h
                  · subst h; exact absurd (by simp) h0
                  · exact h
                · have h1 := hf ⟨0, hpos⟩
                  have hrl := FitL_len h1.1
                  obtain ⟨v0, hv0, _⟩ := h1.2 0 _ (List.getElem?_eq_getElem (by omega))
                  obtain ⟨hsp, hblt⟩ := cell_drop (a := a) (v := v0) (by simpa [Addr.add] using hv0)
                  obtain ⟨ab, ao, asp⟩ := a
                  simp only at hsp hblt; subst hsp
                  have hl' : (List.ofFn f).length = len := by simp
                  have := RepD.sl (w := W) (S := fun b => b < W.heap.size) (rows := List.ofFn f) (b := ab) (off := ao) (c := cap) (sz := P.cellsOf e) (fun i j => (W.cell? ⟨ab, ao + i * P.cellsOf e + j, none⟩).getD undef) hblt (by simpa using hl) (fun i r hi => ?_) (fun i j r d hi hj => ?_) (fun i j r d hi hj => ?_)
                  · rw [hl'] at this; exact this
                  · obtain ⟨h2, rfl⟩ := hget i r hi
                    rw [FitL_len (hf ⟨i, h2⟩).1, hcl]
                  · obtain ⟨h2, rfl⟩ := hget i r hi
                    obtain ⟨u, hu1, hu2⟩ := (hf ⟨i, h2⟩).2 j d hj
                    rw [Addr_add] at hu1
                    rw [Nat.add_assoc, hu1]; rfl
                  · obtain ⟨h2, rfl⟩ := hget i r hi
                    obtain ⟨u, hu1, hu2⟩ := (hf ⟨i, h2⟩).2 j d hj
                    rw [Addr_add] at hu1
                    rw [Nat.add_assoc, hu1]; exact hu2
      · cases h
    · rename_i fs hu
      simp only [Option.bind_eq_some_iff] at h
      obtain ⟨sh', h, hsl⟩ := h
      split at hsl
      case isFalse => cases hsl
      rename_i hsl'
      injection hsl with hsl; subst hsl
      obtain ⟨xs, k, hk, hxy, hcl, hxl, hf⟩ := DataW.trod_struct hu hx
      have key : ∀ (l : List Field) (off : Nat) (sh : List CSh), shpF P (shp P n) l off = some sh → (∀ (i : Nat) (f : Field), l[i]? = some f → ∃ y, DataW.trod enc P W 0 spare held k f.type ((cs.drop f.offset).take (P.cellsOf f.type)) = some y) →
          ∃ ds, FitL sh ds ∧ Cells W ds ((cs.drop off).take sh.length) := by
        intro l
        induction l with
        | nil => intro off sh h _; simp [shpF] at h; subst h; exact ⟨[], by simp [FitL], by simp [Cells]⟩
        | cons f l ih =>
          intro off sh h hf
          simp only [shpF] at h
          split at h
          · rename_i ho
            subst ho
            simp only [Option.bind_eq_some_iff] at h
            obtain ⟨c, hc, h⟩ := h
            split at h
            · rename_i hcl
              simp only [Option.map_eq_some_iff] at h
              obtain ⟨sh', hs', rfl⟩ := h
              obtain ⟨y, hy⟩ := hf 0 f rfl
              obtain ⟨ds, hd1, hd2⟩ := IH _ _ _ _ _ hc hy
              obtain ⟨ds', hd1', hd2'⟩ := ih _ _ hs' (fun i g hg => hf (i + 1) g (by simpa using hg))
              refine ⟨ds ++ ds', FitL_app hd1 hd1', ?_⟩
              have e : (cs.drop f.offset).take (c ++ sh').length = (cs.drop f.offset).take (P.cellsOf f.type) ++ (cs.drop (f.offset + c.length)).take sh'.length := by
                rw [List.length_append, List.take_add, List.drop_drop, hcl]
              rw [e]
              exact cells_app hd2 hd2'
            · cases h
          · cases h
      obtain ⟨ds, h1, h2⟩ := key fs.toList 0 sh' h (fun i f hi => by
        have hi' : fs[i]? = some f := by simpa using hi
        have hlt : i < xs.length := by rw [hxl]; exact (Array.getElem?_eq_some_iff.1 hi').1
        exact ⟨xs[i], (hf i f hi').trans (List.getElem?_eq_getElem hlt)⟩)
      refine ⟨ds, h1, ?_⟩
      rwa [List.drop_zero, List.take_of_length_le (by omega)] at h2
    · cases h
def isStr (P : Program) (t : TypeId) : Bool := match P.underlying t with
  | some (.struct _) => true
  | _ => false
theorem open_d {n : Nat} {t : TypeId} {s : CSh} {v : Value} {d : DataW H} {p : List MemPlace} {base : Nat} (hs : shp P n t = some [s]) (hn : isStr P t = false) (hv : Value.okWide P W .any base t v) (h : DataW.Trod enc P W 0 spare held t v d p) :
    ∃ x, Fit s x ∧ ∀ μ, Rep W (fun b => b < W.heap.size) μ (.d x) v := by
  obtain ⟨fuel, h⟩ := h
  obtain ⟨ds, h1, h2⟩ := shp_open n t _ fuel _ _ hs h
  have hc : v.cells = #[v] := by
    cases n with
    | zero => simp [shp] at hs
    | succ n =>
      simp only [shp] at hs
      unfold isStr at hn
      split at hs
      · rename_i hu; obtain ⟨b, rfl⟩ := okWide_bool hu hv; rfl
      · rename_i k hu; obtain ⟨b, rfl⟩ := okWide_int hu hv; rfl
      · rename_i e hu; obtain ⟨_, _, _, rfl⟩ := okWide_slice hu hv; rfl
      · rename_i fs hu; rw [hu] at hn; simp at hn
      · cases hs
  rw [hc] at h2
  match ds, h1, h2 with
  | [x], h1, h2 => simp only [FitL, and_true] at h1; exact ⟨x, h1, fun μ => .d (h2.2 0 x v rfl rfl)⟩
  | [], h1, _ => simp [FitL] at h1
  | _ :: _ :: _, h1, _ => simp [FitL] at h1
end
end Go.Proofs.YtpocnjliigjidaaGreat
namespace Go.Proofs.YtpocnjliigjidaaGreat
open Go.RowKit
set_option linter.unusedSimpArgs false
set_option linter.unusedVariables false
theorem fit_int {d : D} (h : Fit (.int .i64) d) : ∃ n : Int, d = .int .i64 n ∧ (Lit.int .i64 n).wf = true := by
  cases d with
  | int k n => simp only [Fit] at h; obtain ⟨rfl, h⟩ := h; exact ⟨n, rfl, h⟩
  | _ => simp [Fit] at h
theorem fit_w64 {d : D} (h : Fit (.int .u64) d) : ∃ n : Int, d = .int .u64 n ∧ (Lit.int .u64 n).wf = true := by
  cases d with
  | int k n => simp only [Fit] at h; obtain ⟨rfl, h⟩ := h; exact ⟨n, rfl, h⟩
  | _ => simp [Fit] at h
theorem fit_list {α : Type} {enc : α → List D} {cs : List CSh} {Q : α → Prop} (he : ∀ r, FitL cs r → ∃ x, r = enc x ∧ Q x) {d : D} (h : Fit (.sl cs) d) : ∃ l : List α, d = .sl (l.map enc) ∧ l.length ≤ maxLen ∧ ∀ x ∈ l, Q x := by
  cases d with
  | sl rows =>
    simp only [Fit] at h
    obtain ⟨h1, h2⟩ := h
    have key : ∀ rows : List (List D), (∀ r ∈ rows, FitL cs r) → ∃ l : List α, rows = l.map enc ∧ ∀ x ∈ l, Q x := by
      intro rows
      induction rows with
      | nil => intro _; exact ⟨[], rfl, by simp⟩
      | cons r rows ih =>
        intro h
        obtain ⟨x, rfl, hx⟩ := he r (h r (by simp))
        obtain ⟨l, rfl, hl⟩ := ih (fun r hr => h r (by simp [hr]))
        exact ⟨x :: l, rfl, by simpa using ⟨hx, hl⟩⟩
    obtain ⟨l, rfl, hl⟩ := key rows h2
    exact ⟨l, rfl, by simpa using h1, hl⟩
  | _ => simp [Fit] at h
theorem wf_nat {n : Int} (h : (Lit.int .u64 n).wf = true) : ∃ m : Nat, n = (m : Int) ∧ m < 18446744073709551616 := by
  obtain ⟨h1, h2⟩ := (Lit.wf_int_iff .u64 n).1 h
  have e1 : IntKind.u64.min = 0 := by decide
  have e2 : IntKind.u64.max = 18446744073709551615 := by decide
  rw [e1] at h1
  rw [e2] at h2
  exact ⟨n.toNat, by omega, by omega⟩
theorem fit_u {d : D} (h : Fit (.int .u64) d) : ∃ n : Nat, d = .int .u64 (n : Int) ∧ n < 18446744073709551616 := by
  obtain ⟨n, rfl, hn⟩ := fit_w64 h
  obtain ⟨m, rfl, hm⟩ := wf_nat hn
  exact ⟨m, rfl, hm⟩
end Go.Proofs.YtpocnjliigjidaaGreat
namespace Go.Proofs.YtpocnjliigjidaaGreat
open Go.RowKit Go.ChangeShapes Go.WideShapes Go.ChangeAt Go.Deep
set_option linter.unusedSimpArgs false
set_option linter.unusedVariables false
theorem fit_oc {r : List D} (h : FitL [.int .i64, .int .i64, .int .i64, .int .i64, .int .i64, .int .u64, .int .u64] r) : ∃ x : Oc, r = encOc x ∧ True := by
  match r, h with
  | [a, b, c, d, e, f, g], h =>
    simp only [FitL, and_true] at h
    obtain ⟨h1, h2, h3, h4, h5, h6, h7⟩ := h
    obtain ⟨k, rfl, _⟩ := fit_int h1
    obtain ⟨p, rfl, _⟩ := fit_int h2
    obtain ⟨o, rfl, _⟩ := fit_int h3
    obtain ⟨q, rfl, _⟩ := fit_int h4
    obtain ⟨w, rfl, _⟩ := fit_int h5
    obtain ⟨t, rfl, _⟩ := fit_u h6
    obtain ⟨v, rfl, _⟩ := fit_u h7
    exact ⟨⟨k, p, o, q, w, t, v⟩, rfl, trivial⟩
  | [], h => simp [FitL] at h
  | [_], h => simp [FitL] at h
  | [_, _], h => simp [FitL] at h
  | [_, _, _], h => simp [FitL] at h
  | [_, _, _, _], h => simp [FitL] at h
  | [_, _, _, _, _], h => simp [FitL] at h
  | [_, _, _, _, _, _], h => simp [FitL] at h
  | _ :: _ :: _ :: _ :: _ :: _ :: _ :: _ :: _, h => simp [FitL] at h
theorem fit_ocs {d : D} (h : Fit (.sl [.int .i64, .int .i64, .int .i64, .int .i64, .int .i64, .int .u64, .int .u64]) d) : ∃ l : List Oc, d = .sl (l.map encOc) ∧ l.length ≤ maxLen := by
  obtain ⟨l, h1, h2, _⟩ := fit_list (enc := encOc) (Q := fun _ => True) (fun r hr => fit_oc hr) h
  exact ⟨l, h1, h2⟩
end Go.Proofs.YtpocnjliigjidaaGreat
