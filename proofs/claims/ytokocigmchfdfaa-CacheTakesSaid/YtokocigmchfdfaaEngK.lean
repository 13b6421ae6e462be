/- Engine, part K: one operation, whatever it is; the operations of a region in the order of the text. -/
import Derived.Test.YtokocigmchfdfaaEngJ2
import Derived.Test.YtokocigmchfdfaaEngF2
set_option linter.unusedSimpArgs false
set_option linter.unusedVariables false
namespace Go.Proofs.Ytokocigmchfdfaa
open Go.RowKit

def withO {α : Type} (o : Option α) (K : α → Prop) : Prop := ∃ x, o = some x ∧ K x
theorem withO_some {α : Type} (x : α) (K : α → Prop) : withO (some x) K = K x := by simp [withO]

theorem len_two {α : Type} {l : List α} (h : l.length = 2) : ∃ a b, l = [a, b] := by
  match l, h with
  | [a, b], _ => exact ⟨a, b, rfl⟩

/-- a function of the program with a proved contract -/
def Ok (P : Program) (f : FuncId) (s : Spec) : Prop :=
  (∃ fn : Func, P.funcs[f]? = some fn ∧ fn.body.isSome = true ∧ (fn.name == "runtime.NumGoroutine") = false) ∧ SpecOK P f s

/-- whoever may hand back what it was lent may be lent nothing that is written later -/
def alOk (s : Spec) (rd : List Nat) : Prop := s.al = true → rd = []
theorem alOk_nil (s : Spec) : alOk s [] := fun _ => rfl
theorem alOk_f {s : Spec} {rd : List Nat} (h : s.al = false) : alOk s rd := fun h' => by rw [h] at h'; cases h'

def snapV (P : Program) (σ : St) (f : FuncId) (caps xs : List AV) (K : Eff → Prop) : Prop :=
  snapAs σ.H xs fun ys rd => snapL σ.H caps fun cs rd2 => ∃ s, Ok P f s ∧ alOk s (rd ++ rd2) ∧ ∃ res outs, s.rel (ys ++ cs) [] res outs ∧ K (resE σ.h.length res outs (rd ++ rd2))
def disj (J rd : List Nat) : Bool := rd.all fun i => !J.contains i
def lendV (P : Program) (σ : St) (f : FuncId) (caps xs : List AV) (K : Eff → Prop) : Prop :=
  ∃ (s : Spec) (J : List Nat), Ok P f s ∧ distinct J = true ∧ lendAs J σ.H (xs ++ caps) fun ys rd => insV J σ.H J fun ins => alOk s rd ∧ disj J rd = true ∧ ∃ res outs, s.rel ys ins res outs ∧ K (lendE σ.h.length J s.dead res outs rd)
/-- an operation whose effect was shown apart -/
def extV (P : Program) (n : Nat) (o : Oper) (σ : St) (K : Eff → Prop) : Prop := ∃ e, (∀ cx : Cx, cx.P = P → cx.n = n → LocOp cx σ.h.length σ.T σ.H o e) ∧ K e
def callV (P : Program) (n : Nat) (o : Oper) (σ : St) (g : AV) (xs : List AV) (K : Eff → Prop) : Prop :=
  (match g with
  | .fn f caps => snapV P σ f caps xs K ∨ lendV P σ f caps xs K
  | _ => False) ∨ extV P n o σ K
theorem callV_snap {P : Program} {n : Nat} {o : Oper} {σ : St} {f : FuncId} {caps xs : List AV} {K : Eff → Prop} (h : snapV P σ f caps xs K) : callV P n o σ (.fn f caps) xs K := .inl (.inl h)
theorem callV_ext {P : Program} {n : Nat} {o : Oper} {σ : St} {g : AV} {xs : List AV} {K : Eff → Prop} (h : extV P n o σ K) : callV P n o σ g xs K := .inr h
theorem callV_lend {P : Program} {n : Nat} {o : Oper} {σ : St} {f : FuncId} {caps xs : List AV} {K : Eff → Prop} (s : Spec) (J : List Nat) (hok : Ok P f s) (hJ : distinct J = true)
    (h : lendAs J σ.H (xs ++ caps) fun ys rd => insV J σ.H J fun ins => alOk s rd ∧ disj J rd = true ∧ ∃ res outs, s.rel ys ins res outs ∧ K (lendE σ.h.length J s.dead res outs rd)) : callV P n o σ (.fn f caps) xs K := .inl (.inr ⟨s, J, hok, hJ, h⟩)

def sliceV (P : Program) (t : TypeId) (x : AV) (ts : Nat → Option AV) (hs : Nat → Option Ob) (lo hi mx : Option Operand) (K : AV → List Nat → Prop) : Prop :=
  (mx = none ∧ sliV P t x ts lo hi fun v => K v []) ∨ sl2V P t x ts hs lo hi mx K ∨ sl3V P t x ts lo hi mx fun v => K v []
theorem slice_old {P : Program} {t : TypeId} {x : AV} {ts : Nat → Option AV} {hs : Nat → Option Ob} {lo hi : Option Operand} {K : AV → List Nat → Prop} (h : sliV P t x ts lo hi fun v => K v []) : sliceV P t x ts hs lo hi none K := .inl ⟨rfl, h⟩
theorem slice_new {P : Program} {t : TypeId} {x : AV} {ts : Nat → Option AV} {hs : Nat → Option Ob} {lo hi mx : Option Operand} {K : AV → List Nat → Prop} (h : sl2V P t x ts hs lo hi mx K) : sliceV P t x ts hs lo hi mx K := .inr (.inl h)
theorem slice_cap {P : Program} {t : TypeId} {x : AV} {ts : Nat → Option AV} {hs : Nat → Option Ob} {lo hi mx : Option Operand} {K : AV → List Nat → Prop} (h : sl3V P t x ts lo hi mx fun v => K v []) : sliceV P t x ts hs lo hi mx K := .inr (.inr h)
def appV (P : Program) (σ : St) (t : TypeId) (x y : AV) (K : Eff → Prop) : Prop :=
  (apV P σ.H t x y fun ob sz n kill rd => K ⟨.row σ.h.length sz 0 n, [ob], kill, rd⟩) ∨ (apI P σ.H t x y fun v wr rd => K ⟨v, [], wr, rd⟩)
theorem app_grow {P : Program} {σ : St} {t : TypeId} {x y : AV} {K : Eff → Prop} (h : apV P σ.H t x y fun ob sz n kill rd => K ⟨.row σ.h.length sz 0 n, [ob], kill, rd⟩) : appV P σ t x y K := .inl h
theorem app_in {P : Program} {σ : St} {t : TypeId} {x y : AV} {K : Eff → Prop} (h : apI P σ.H t x y fun v wr rd => K ⟨v, [], wr, rd⟩) : appV P σ t x y K := .inr h

def builtinV (P : Program) (n : Nat) (o : Oper) (σ : St) (b : Builtin) (tt : List TypeId) (xs : List AV) (K : Eff → Prop) : Prop :=
  match b, tt, xs with
  | .len, [t], [x] => lenV P t x fun v => K ⟨v, [], [], []⟩
  | .append, [t, t'], [x, .d (.int _ m)] => apZ P σ.H t t' x m fun ob sz n rd => K ⟨.row σ.h.length sz 0 n, [ob], [], rd⟩
  | .append, [t, t'], [x, y] => t' = t ∧ appV P σ t x y K
  | .clear, [t], [x] => clV P σ.H t x fun wr rd => K ⟨.any, [], wr, rd⟩
  | .min, _, [x, y] => mmV true x y fun v => K ⟨v, [], [], []⟩
  | .max, _, [x, y] => mmV false x y fun v => K ⟨v, [], [], []⟩
  | .cap, [t], [x] => capV P t x fun v => K ⟨v, [], [], []⟩
  | .copy, [t, t'], [x, y] => t' = t ∧ cpV P σ.H t x y fun v wr rd => K ⟨v, [], wr, rd⟩
  | _, _, _ => extV P n o σ K

def opV (P : Program) (n : Nat) (σ : St) (o : Oper) (K : Eff → Prop) : Prop :=
  match o.op with
  | .store t y z => o.dst = none ∧ withO (getT σ.T y) fun p => withO (getT σ.T z) fun x => withO (cellsA x) fun ys => (TL P t).ok = true ∧ ys.length = (TL P t).size ∧ stV σ.H p ys fun wr rd => K ⟨.any, [], wr, rd⟩
  | op => dstOk n o.dst ∧ match op with
    | .move x => withO (getT σ.T x) fun v => K ⟨v, [], [], []⟩
    | .assign x => withO (getT σ.T x) fun v => K ⟨v, [], [], []⟩
    | .pick c a b => withO (getT σ.T c) fun cv => match cv with
      | .d (.bool t) => (t = true → withO (getT σ.T a) fun v => K ⟨v, [], [], []⟩) ∧ (t = false → withO (getT σ.T b) fun v => K ⟨v, [], [], []⟩)
      | _ => False
    | .extract y k => withO (getT σ.T y) fun v => match v with
      | .tup xs => withO xs[k]? fun x => K ⟨x, [], [], []⟩
      | _ => False
    | .box t y => withO (getT σ.T y) fun x => withO (cellsA x) fun cs => K ⟨.ptr σ.h.length 0, [.box t cs], [], []⟩
    | .alloc t => withO (TL P t).zero fun cs => K ⟨.ptr σ.h.length 0, [.box t cs], [], []⟩
    | .load t y => withO (getT σ.T y) fun p => atV σ.H p fun xs rd => ldV P t xs fun x => K ⟨x, [], [], rd⟩
    | .fieldAddr t y k => withO (getT σ.T y) fun p => faV P t k p fun x => K ⟨x, [], [], []⟩
    | .indexAddr t y z => withO (getT σ.T y) fun p => withO (getT σ.T z) fun q => match q with
      | .d (.int _ i) => iaV P t p i fun x => K ⟨x, [], [], []⟩
      | _ => False
    | .binOp op t y z _ => withO (getT σ.T y) fun p => withO (getT σ.T z) fun q => binV P op t p q fun x => K ⟨x, [], [], []⟩
    | .unOp op _ y => withO (getT σ.T y) fun p => unV op p fun x => K ⟨x, [], [], []⟩
    | .convert s t y => withO (getT σ.T y) fun p => match p with
      | .d (.int _ i) => (TL P s).ok = true ∧ (TL P t).ok = true ∧ withO (TL P t).ik fun k => fitV k i fun j => K ⟨.d (.int k j), [], [], []⟩
      | _ => False
    | .build t parts => withO (getP σ.T parts.toList) fun ps => buildV P t ps fun x => K ⟨x, [], [], []⟩
    | .buildSlice t len parts => withO (getP σ.T parts.toList) fun ps => bsV P t len ps fun ob sz => K ⟨.row σ.h.length sz 0 len, [ob], [], []⟩
    | .makeSlice t y z => withO (getT σ.T y) fun l => withO (getT σ.T z) fun c => mkV P t l c fun ob sz m => K ⟨.row σ.h.length sz 0 m, [ob], [], []⟩
    | .slice t y lo hi mx => withO (getT σ.T y) fun x => sliceV P t x σ.T σ.H lo hi mx fun v rd => K ⟨v, [], [], rd⟩
    | .field t y k => withO (getT σ.T y) fun x => fieldV P t k x fun x => K ⟨x, [], [], []⟩
    | .nilCheck y => withO (getT σ.T y) fun x => nilcV x fun x => K ⟨x, [], [], []⟩
    | .makeFunc fn first caps => (match fn with
      | .func f => first.toList = [] ∧ withO (gets σ.T caps.toList) fun xs => K ⟨.fn f xs, [], [], []⟩
      | _ => False)
    | .call c => (match c.callee with
      | .value g => withO (getT σ.T g) fun gv => withO (gets σ.T c.args.toList) fun xs => callV P n o σ gv xs K
      | .builtin b => withO (gets σ.T c.args.toList) fun xs => builtinV P n o σ b c.argTypes.toList xs K
      | _ => extV P n o σ K)
    | _ => extV P n o σ K

theorem opV_sound {cx : Cx} {σ : St} {o : Oper} {K : Eff → Prop} (h : opV cx.P cx.n σ o K) : ∃ e, LocOp cx σ.h.length σ.T σ.H o e ∧ K e := by
  unfold opV at h
  cases ho : o.op with
  | store t y z =>
    simp only [ho] at h
    obtain ⟨hd, p, hp, x, hx, ys, hys, hok, hlen, h⟩ := h
    exact loc_store hd ho hp hx hys hok hlen h
  | move x =>
    simp only [ho] at h
    obtain ⟨hd, v, hv, hK⟩ := h
    exact ⟨_, loc_move hd (.inl ho) hv, hK⟩
  | assign x =>
    simp only [ho] at h
    obtain ⟨hd, v, hv, hK⟩ := h
    exact ⟨_, loc_move hd (.inr ho) hv, hK⟩
  | pick c a b =>
    simp only [ho] at h
    obtain ⟨hd, cv, hc, h⟩ := h
    split at h
    · rename_i t
      cases t with
      | true => obtain ⟨v, hv, hK⟩ := h.1 rfl; exact ⟨_, loc_pick (b := true) hd ho hc hv, hK⟩
      | false => obtain ⟨v, hv, hK⟩ := h.2 rfl; exact ⟨_, loc_pick (b := false) hd ho hc hv, hK⟩
    · exact h.elim
  | extract y k =>
    simp only [ho] at h
    obtain ⟨hd, v, hv, h⟩ := h
    split at h
    · obtain ⟨x, hx, hK⟩ := h; exact ⟨_, loc_extract hd ho hv hx, hK⟩
    · exact h.elim
  | box t y =>
    simp only [ho] at h
    obtain ⟨hd, x, hx, cs, hcs, hK⟩ := h
    exact ⟨_, loc_box hd ho hx hcs, hK⟩
  | alloc t =>
    simp only [ho] at h
    obtain ⟨hd, cs, hcs, hK⟩ := h
    exact ⟨_, loc_alloc hd ho hcs, hK⟩
  | load t y =>
    simp only [ho] at h
    obtain ⟨hd, p, hp, h⟩ := h
    exact loc_load hd ho hp h
  | fieldAddr t y k =>
    simp only [ho] at h
    obtain ⟨hd, p, hp, h⟩ := h
    exact loc_fieldAddr hd ho hp h
  | indexAddr t y z =>
    simp only [ho] at h
    obtain ⟨hd, p, hp, q, hq, h⟩ := h
    split at h
    · exact loc_indexAddr hd ho hp hq h
    · exact h.elim
  | binOp op t y z t' =>
    simp only [ho] at h
    obtain ⟨hd, p, hp, q, hq, h⟩ := h
    exact loc_binOp hd ho hp hq h
  | unOp op t y =>
    simp only [ho] at h
    obtain ⟨hd, p, hp, h⟩ := h
    exact loc_unOp hd ho hp h
  | convert s t y =>
    simp only [ho] at h
    obtain ⟨hd, p, hp, h⟩ := h
    split at h
    · obtain ⟨h1, h2, k, hk, hK⟩ := h; exact ⟨_, loc_convert hd ho hp h1 h2 hk, hK⟩
    · exact h.elim
  | build t parts =>
    simp only [ho] at h
    obtain ⟨hd, ps, hp, h⟩ := h
    exact loc_build hd ho hp h
  | buildSlice t len parts =>
    simp only [ho] at h
    obtain ⟨hd, ps, hp, h⟩ := h
    exact loc_buildSlice hd ho hp h
  | makeSlice t y z =>
    simp only [ho] at h
    obtain ⟨hd, l, hl, c, hc, h⟩ := h
    exact loc_makeSlice hd ho hl hc h
  | slice t y lo hi mx =>
    simp only [ho] at h
    obtain ⟨hd, x, hx, h⟩ := h
    rcases h with ⟨rfl, h⟩ | h | h
    · exact loc_slice hd ho hx h
    · exact loc_slice2 hd ho hx h
    · exact loc_slice3 hd ho hx h
  | field t y k =>
    simp only [ho] at h
    obtain ⟨hd, x, hx, h⟩ := h
    exact loc_field hd ho hx h
  | nilCheck y =>
    simp only [ho] at h
    obtain ⟨hd, x, hx, h⟩ := h
    exact loc_nilCheck hd ho hx h
  | makeFunc fn first caps =>
    simp only [ho] at h
    obtain ⟨hd, h⟩ := h
    split at h
    · obtain ⟨hf, xs, hx, hK⟩ := h
      have : first = #[] := by simpa using hf
      subst this
      exact ⟨_, loc_makeFunc hd ho hx, hK⟩
    · exact h.elim
  | call c =>
    simp only [ho] at h
    obtain ⟨hd, h⟩ := h
    split at h
    · rename_i g hg
      obtain ⟨gv, hgv, xs, hxs, h⟩ := h
      unfold callV at h
      refine Or.elim h (fun h => ?_) (fun ⟨e, he, hK⟩ => ⟨e, he cx rfl rfl, hK⟩)
      split at h
      · rcases h with h | h
        · obtain ⟨ys, rd, h, s1, s2⟩ := snapAs_rep h
          obtain ⟨cs, rd2, h, s3, s4⟩ := snapL_rep h
          obtain ⟨s, hok, hal, res, outs, hrel, hK⟩ := h
          exact ⟨_, loc_enter hd ho hg hgv hxs ⟨s1, s2⟩ ⟨s3, s4⟩ hal hok.1 hok.2 hrel, hK⟩
        · obtain ⟨s, J, hok, hJ, h⟩ := h
          obtain ⟨ys, rd, h, s1, s2⟩ := lendAs_rep h
          obtain ⟨ins, h, s3, s4⟩ := insV_rep h
          obtain ⟨hal, hdj, res, outs, hrel, hK⟩ := h
          refine ⟨_, loc_lend hd ho hg hgv hxs ⟨s1, s2⟩ ⟨s3, s4⟩ hJ (fun i hi hij => ?_) hal hok.1 hok.2 hrel, hK⟩
          have := List.all_eq_true.1 hdj i hi
          simp [hij] at this
      · exact h.elim
    · rename_i b hb
      obtain ⟨xs, hxs, h⟩ := h
      obtain ⟨gl, gg⟩ := gets_get hxs
      have form : ∀ (as : List Operand) (tt : List TypeId), c.args.toList = as → c.argTypes.toList = tt → o.op = .call { callee := .builtin b, args := as.toArray, argTypes := tt.toArray } := by
        rintro as tt rfl rfl
        rw [ho]; congr 1
        cases c; simp_all
      unfold builtinV at h
      split at h
      · rename_i t x htt
        obtain ⟨y, hy⟩ : ∃ y, c.args.toList = [y] := List.length_eq_one_iff.1 (by rw [← gl]; rfl)
        exact loc_len hd (form _ _ hy htt) (gg 0 y x (by simp [hy]) rfl) h
      · rename_i t t' x k m htt
        obtain ⟨a, b', hab⟩ : ∃ a b, c.args.toList = [a, b] := len_two (by rw [← gl]; rfl)
        exact loc_appendZ hd (form _ _ hab htt) (gg 0 a x (by simp [hab]) rfl) (gg 1 b' _ (by simp [hab]) rfl) h
      · rename_i t t' x y hnint htt
        obtain ⟨rfl, h⟩ := h
        obtain ⟨a, b', hab⟩ : ∃ a b, c.args.toList = [a, b] := len_two (by rw [← gl]; rfl)
        rcases h with h | h
        · exact loc_append hd (form _ _ hab htt) (gg 0 a x (by simp [hab]) rfl) (gg 1 b' y (by simp [hab]) rfl) h
        · exact loc_appendI hd (form _ _ hab htt) (gg 0 a x (by simp [hab]) rfl) (gg 1 b' y (by simp [hab]) rfl) h
      · rename_i t x htt
        obtain ⟨y, hy⟩ : ∃ y, c.args.toList = [y] := List.length_eq_one_iff.1 (by rw [← gl]; rfl)
        exact loc_clear hd (form _ _ hy htt) (gg 0 y x (by simp [hy]) rfl) h
      · rename_i x y
        obtain ⟨a, b', hab⟩ : ∃ a b, c.args.toList = [a, b] := len_two (by rw [← gl]; rfl)
        exact loc_min hd (form _ _ hab rfl) (gg 0 a x (by simp [hab]) rfl) (gg 1 b' y (by simp [hab]) rfl) h
      · rename_i x y
        obtain ⟨a, b', hab⟩ : ∃ a b, c.args.toList = [a, b] := len_two (by rw [← gl]; rfl)
        exact loc_max hd (form _ _ hab rfl) (gg 0 a x (by simp [hab]) rfl) (gg 1 b' y (by simp [hab]) rfl) h
      · rename_i t x htt
        obtain ⟨y, hy⟩ : ∃ y, c.args.toList = [y] := List.length_eq_one_iff.1 (by rw [← gl]; rfl)
        exact loc_cap hd (form _ _ hy htt) (gg 0 y x (by simp [hy]) rfl) h
      · rename_i t t' x y htt
        obtain ⟨rfl, h⟩ := h
        obtain ⟨a, b', hab⟩ : ∃ a b, c.args.toList = [a, b] := len_two (by rw [← gl]; rfl)
        exact loc_copy hd (form _ _ hab htt) (gg 0 a x (by simp [hab]) rfl) (gg 1 b' y (by simp [hab]) rfl) h
      · obtain ⟨e, he, hK⟩ := h; exact ⟨e, he cx rfl rfl, hK⟩
    · obtain ⟨e, he, hK⟩ := h; exact ⟨e, he cx rfl rfl, hK⟩
  | _ => simp only [ho] at h; obtain ⟨e, he, hK⟩ := h.2; exact ⟨e, he cx rfl rfl, hK⟩

/-! ### states -/
def wrH : List (Option Ob) → List (Nat × Option Ob) → List (Option Ob)
  | h, [] => h
  | h, (i, x) :: l => (wrH h l).set i x
def wrOk (n : Nat) : List (Nat × Option Ob) → Bool
  | [] => true
  | (i, _) :: l => decide (i < n) && wrOk n l
def St.app (σ : St) (dst : Option Tmp) (e : Eff) : St :=
  ⟨match dst with | some d => (d, e.val) :: σ.t | none => σ.t, wrH σ.h e.wr ++ e.news.map some⟩

theorem wrH_len : ∀ (l : List (Nat × Option Ob)) (h : List (Option Ob)), (wrH h l).length = h.length
  | [], _ => rfl
  | (i, x) :: l, h => by simp [wrH, wrH_len l h]
theorem wrH_get : ∀ (l : List (Nat × Option Ob)) (h : List (Option Ob)) (j : Nat), wrOk h.length l = true → ((wrH h l)[j]?).join = match (l.find? (fun p => p.1 == j)).map (·.2) with | some x => x | none => (h[j]?).join
  | [], h, j, _ => by simp [wrH]
  | (i, x) :: l, h, j, hok => by
    simp only [wrOk, Bool.and_eq_true, decide_eq_true_eq] at hok
    simp only [wrH, List.getElem?_set, List.find?_cons]
    by_cases hij : i = j
    · subst hij
      simp [wrH_len, hok.1]
    · have : (i == j) = false := by simp [hij]
      simp only [if_neg hij, this]
      exact wrH_get l h j hok.2

theorem St.app_H (σ : St) (dst : Option Tmp) (e : Eff) (hok : wrOk σ.h.length e.wr = true) : (σ.app dst e).H = appH σ.h.length e σ.H := by
  funext j
  simp only [St.H, St.app, appH, Eff.wlook]
  by_cases hj : σ.h.length ≤ j
  · rw [List.getElem?_append_right (by rw [wrH_len]; exact hj), wrH_len, List.getElem?_map]
    by_cases hlt : j < σ.h.length + e.news.length
    · rw [if_pos ⟨hj, hlt⟩]
      cases e.news[j - σ.h.length]? <;> rfl
    · rw [if_neg (by omega), List.getElem?_eq_none (by omega)]
      have h1 := wrH_get e.wr σ.h j hok
      rw [List.getElem?_eq_none (by rw [wrH_len]; exact hj)] at h1
      exact h1
  · rw [if_neg (by omega), List.getElem?_append_left (by rw [wrH_len]; omega)]
    exact wrH_get e.wr σ.h j hok

theorem St.app_T (σ : St) (dst : Option Tmp) (e : Eff) : (σ.app dst e).T = appT dst e.val σ.T := by
  funext s
  cases dst with
  | none => simp [St.T, St.app, appT]
  | some d =>
    simp only [St.T, St.app, appT, look, Option.some.injEq]
    by_cases h : s = d
    · subst h; simp
    · rw [if_neg h, if_neg (fun e => h e.symm)]
theorem St.app_len (σ : St) (dst : Option Tmp) (e : Eff) : (σ.app dst e).h.length = σ.h.length + e.news.length := by simp [St.app, wrH_len]

structure RRs (cx : Cx) (σ : St) (μ : Mu) (a : Act) (w : World) : Prop where
  rr : RR cx σ.H σ.T μ a w
  mu : ∀ i, σ.h.length ≤ i → μ i = none
  bor : ∀ i, i < cx.k → μ i = cx.mu0 i
  kle : cx.k ≤ σ.h.length

def skipE : Eff := ⟨.any, [], [], []⟩

/-- the operations in the order of the text; 'ds': the slots that the region's operations write -/
def gdV (ds : List (Option Tmp)) (σ : St) (o : Oper) (yes no : Prop) : Prop :=
  match o.guard with
  | none => yes
  | some (g, want) => match ds[g]? with
    | some (some s) => withO (look σ.t s) fun v => match v with
      | .d (.bool b) => (b = want → yes) ∧ (b = !want → no)
      | _ => False
    | _ => False

def opsV (P : Program) (n : Nat) (ds : List (Option Tmp)) : List Oper → St → (St → Prop) → Prop
  | [], σ, K => K σ
  | o :: rest, σ, K => gdV ds σ o (opV P n σ o fun e => wrOk σ.h.length e.wr = true ∧ opsV P n ds rest (σ.app o.dst e) K) (dstOk n o.dst ∧ opsV P n ds rest (σ.app o.dst skipE) K)

theorem yielded_of {cx : Cx} {H : Nat → Option Ob} {T : Nat → Option AV} {μ : Mu} {a : Act} {w : World} (hr : RR cx H T μ a w) {ops : Array Oper} {g s : Nat} {b : Bool} (hs : (ops[g]?).bind (·.dst) = some s) (ht : T s = some (.d (.bool b))) : yielded ops a.tmps g = some b := by
  obtain ⟨v, h1, h2⟩ := hr.tm s _ ht
  cases h2 with | d h2 => cases h2; simp [yielded, hs, h1]

theorem opsV_sound {cx : Cx} {ops : Array Oper} {Q : Exit → Act → World → Prop} : ∀ (l : List Oper) (σ : St) (K : St → Prop) (μ : Mu) (a : Act) (w : World), opsV cx.P cx.n (ops.toList.map (·.dst)) l σ K → RRs cx σ μ a w →
    (∀ σ' μ' a' w', K σ' → RRs cx σ' μ' a' w' → Q .normal a' w') → wpList cx.P ops Q l a w
  | [], σ, K, μ, a, w, h, hr, hQ => hQ σ μ a w h hr
  | o :: rest, σ, K, μ, a, w, h, hr, hQ => by
    have step : ∀ e : Eff, wrOk σ.h.length e.wr = true → opsV cx.P cx.n (ops.toList.map (·.dst)) rest (σ.app o.dst e) K → ∀ a' w' μ', RR cx (appH σ.h.length e σ.H) (appT o.dst e.val σ.T) μ' a' w' → (∀ i x, μ i = some x → μ' i = some x) →
        (∀ i, μ' i ≠ none → μ i ≠ none ∨ (σ.h.length ≤ i ∧ i < σ.h.length + e.news.length)) → wpList cx.P ops Q rest a' w' := by
      intro e hok hrest a' w' μ' h1 h2 h3
      refine opsV_sound rest _ K μ' a' w' hrest ⟨by rw [St.app_H _ _ _ hok, St.app_T]; exact h1, fun i hi => ?_, fun i hi => ?_, by rw [St.app_len]; have := hr.kle; omega⟩ hQ
      · rw [St.app_len] at hi
        by_cases hne : μ' i = none
        · exact hne
        · rcases h3 i hne with h4 | h4
          · exact absurd (hr.mu i (by omega)) h4
          · omega
      · have hb := hr.bor i hi
        cases hm : μ i with
        | some x => rw [h2 i x hm, ← hb, hm]
        | none =>
          by_cases hne : μ' i = none
          · rw [hne, ← hb, hm]
          · rcases h3 i hne with h4 | h4
            · exact absurd hm h4
            · have := hr.kle; omega
    have yes : opV cx.P cx.n σ o (fun e => wrOk σ.h.length e.wr = true ∧ opsV cx.P cx.n (ops.toList.map (·.dst)) rest (σ.app o.dst e) K) → o.wp cx.P a w (wpList cx.P ops Q rest) Q := by
      intro h
      obtain ⟨e, hloc, hok, hrest⟩ := opV_sound h
      exact hloc σ.H σ.T μ a w _ Q hr.rr (fun _ _ => rfl) (fun _ _ => rfl) (fun k _ => hr.mu _ (by omega)) (step e hok hrest)
    have no : (dstOk cx.n o.dst ∧ opsV cx.P cx.n (ops.toList.map (·.dst)) rest (σ.app o.dst skipE) K) → wpList cx.P ops Q rest (a.put o.dst undef) w := by
      rintro ⟨hd, h⟩
      refine step skipE rfl h _ _ μ ?_ (fun _ _ h => h) (fun i h => .inl h)
      have : appH σ.h.length skipE σ.H = σ.H := appH_id _ _ _ _
      rw [this]
      exact hr.rr.putD hd .any
    simp only [opsV, gdV] at h
    unfold wpList
    cases hg : o.guard with
    | none =>
      simp only [hg] at h
      rw [if_pos (by simp [Region.wanted, hg])]
      exact .inl (yes h)
    | some gw =>
      obtain ⟨g, want⟩ := gw
      simp only [hg] at h
      split at h
      · rename_i s hds
        obtain ⟨v, hv, h⟩ := h
        have hs : (ops[g]?).bind (·.dst) = some s := by
          rw [List.getElem?_map] at hds
          cases hq : ops[g]? with
          | none => simp [hq] at hds
          | some q => simp [hq] at hds; simp [hds]
        split at h
        · rename_i b
          have hy := yielded_of hr.rr (ops := ops) (g := g) hs hv
          by_cases hb : b = want
          · rw [if_pos (by simp [Region.wanted, hg, hy, hb])]
            exact .inl (yes (h.1 hb))
          · rw [if_neg (by simp [Region.wanted, hg, hy, hb])]
            exact no (h.2 (by cases b <;> cases want <;> simp_all))
        · exact h.elim
      · exact h.elim
end Go.Proofs.Ytokocigmchfdfaa
