import Derived.Test.YtniiaaagammebaaEngJ
import Derived.Test.YtniiaaagammebaaEngF

/- Engine, part K: one operation, whatever it is; the operations of a region in the order of the text. -/
namespace Go.Proofs.Ytniiaaagammebaa
open Go.RowKit

def withO {α : Type} (o : Option α) (K : α → Prop) : Prop := ∃ x, o = some x ∧ K x
theorem withO_some {α : Type} (x : α) (K : α → Prop) : withO (some x) K = K x := by simp [withO]

theorem len_two {α : Type} {l : List α} (h : l.length = 2) : ∃ a b, l = [a, b] := by
  match l, h with
  | [a, b], _ => exact ⟨a, b, rfl⟩

/-- a function of the program with a proved contract -/
def Ok (P : Program) (f : FuncId) (s : Spec) : Prop :=
  (∃ fn : Func, P.funcs[f]? = some fn ∧ fn.body.isSome = true ∧ (fn.name == "runtime.NumGoroutine") = false) ∧ SpecOK P f s

/-- whoever may hand back what it was lent may be lent nothing that is written later -/
def alOk (s : Spec) (rd : List Nat) : Prop := s.al = true → rd = []
theorem alOk_nil (s : Spec) : alOk s [] := fun _ => rfl
theorem alOk_f {s : Spec} {rd : List Nat} (h : s.al = false) : alOk s rd := fun h' => by rw [h] at h'; cases h'

def snapV (P : Program) (σ : St) (f : FuncId) (caps xs : List AV) (K : Eff → Prop) : Prop :=
  snapAs σ.H xs fun ys rd => snapL σ.H caps fun cs rd2 => ∃ s, Ok P f s ∧ alOk s (rd ++ rd2) ∧ ∃ res outs, s.rel (ys ++ cs) [] res outs ∧ K (resE σ.h.length res outs (rd ++ rd2))
def disj (J rd : List Nat) : Bool := rd.all fun i => !J.contains i
def lendV (P : Program) (σ : St) (f : FuncId) (caps xs : List AV) (K : Eff → Prop) : Prop :=
  ∃ (s : Spec) (J : List Nat), Ok P f s ∧ distinct J = true ∧ lendAs J σ.H (xs ++ caps) fun ys rd => insV J σ.H J fun ins => alOk s rd ∧ disj J rd = true ∧ ∃ res outs, s.rel ys ins res outs ∧ K (lendE σ.h.length J s.dead res outs rd)
/-- an operation whose effect was shown apart -/
def extV (P : Program) (n : Nat) (o : Oper) (σ : St) (K : Eff → Prop) : Prop := ∃ e, (∀ cx : Cx, cx.P = P → cx.n = n → LocOp cx σ.h.length σ.T σ.H o e) ∧ K e
def callV (P : Program) (n : Nat) (o : Oper) (σ : St) (g : AV) (xs : List AV) (K : Eff → Prop) : Prop :=
  (match g with
  | .fn f caps => snapV P σ f caps xs K ∨ lendV P σ f caps xs K
  | _ => False) ∨ extV P n o σ K
theorem callV_snap {P : Program} {n : Nat} {o : Oper} {σ : St} {f : FuncId} {caps xs : List AV} {K : Eff → Prop} (h : snapV P σ f caps xs K) : callV P n o σ (.fn f caps) xs K := .inl (.inl h)
theorem callV_ext {P : Program} {n : Nat} {o : Oper} {σ : St} {g : AV} {xs : List AV} {K : Eff → Prop} (h : extV P n o σ K) : callV P n o σ g xs K := .inr h
theorem callV_lend {P : Program} {n : Nat} {o : Oper} {σ : St} {f : FuncId} {caps xs : List AV} {K : Eff → Prop} (s : Spec) (J : List Nat) (hok : Ok P f s) (hJ : distinct J = true)
    (h : lendAs J σ.H (xs ++ caps) fun ys rd => insV J σ.H J fun ins => alOk s rd ∧ disj J rd = true ∧ ∃ res outs, s.rel ys ins res outs ∧ K (lendE σ.h.length J s.dead res outs rd)) : callV P n o σ (.fn f caps) xs K := .inl (.inr ⟨s, J, hok, hJ, h⟩)

def sliceV (P : Program) (t : TypeId) (x : AV) (ts : Nat → Option AV) (hs : Nat → Option Ob) (lo hi mx : Option Operand) (K : AV → List Nat → Prop) : Prop :=
  (mx = none ∧ sliV P t x ts lo hi fun v => K v []) ∨ sl2V P t x ts hs lo hi mx K ∨ sl3V P t x ts lo hi mx fun v => K v []
theorem slice_old {P : Program} {t : TypeId} {x : AV} {ts : Nat → Option AV} {hs : Nat → Option Ob} {lo hi : Option Operand} {K : AV → List Nat → Prop} (h : sliV P t x ts lo hi fun v => K v []) : sliceV P t x ts hs lo hi none K := .inl ⟨rfl, h⟩
theorem slice_new {P : Program} {t : TypeId} {x : AV} {ts : Nat → Option AV} {hs : Nat → Option Ob} {lo hi mx : Option Operand} {K : AV → List Nat → Prop} (h : sl2V P t x ts hs lo hi mx K) : sliceV P t x ts hs lo hi mx K := .inr (.inl h)
theorem slice_cap {P : Program} {t : TypeId} {x : AV} {ts : Nat → Option AV} {hs : Nat → Option Ob} {lo hi mx : Option Operand} {K : AV → List Nat → Prop} (h : sl3V P t x ts lo hi mx fun v => K v []) : sliceV P t x ts hs lo hi mx K := .inr (.inr h)
def appV (P : Program) (σ : St) (t : TypeId) (x y : AV) (K : Eff → Prop) : Prop :=
  (apV P σ.H t x y fun ob sz n kill rd => K ⟨.row σ.h.length sz 0 n, [ob], kill, rd⟩) ∨ (apI P σ.H t x y fun v wr rd => K ⟨v, [], wr, rd⟩)
theorem app_grow {P : Program} {σ : St} {t : TypeId} {x y : AV} {K : Eff → Prop} (h : apV P σ.H t x y fun ob sz n kill rd => K ⟨.row σ.h.length sz 0 n, [ob], kill, rd⟩) : appV P σ t x y K := .inl h
theorem app_in {P : Program} {σ : St} {t : TypeId} {x y : AV} {K : Eff → Prop} (h : apI P σ.H t x y fun v wr rd => K ⟨v, [], wr, rd⟩) : appV P σ t x y K := .inr h

def builtinV (P : Program) (n : Nat) (o : Oper) (σ : St) (b : Builtin) (tt : List TypeId) (xs : List AV) (K : Eff → Prop) : Prop :=
  match b, tt, xs with
  | .len, [t], [x] => lenV P t x fun v => K ⟨v, [], [], []⟩
  | .append, [t, t'], [x, .d (.int _ m)] => apZ P σ.H t t' x m fun ob sz n rd => K ⟨.row σ.h.length sz 0 n, [ob], [], rd⟩
  | .append, [t, t'], [x, y] => t' = t ∧ appV P σ t x y K
  | .clear, [t], [x] => clV P σ.H t x fun wr rd => K ⟨.any, [], wr, rd⟩
  | .min, _, [x, y] => mmV true x y fun v => K ⟨v, [], [], []⟩
  | .max, _, [x, y] => mmV false x y fun v => K ⟨v, [], [], []⟩
  | .cap, [t], [x] => capV P t x fun v => K ⟨v, [], [], []⟩
  | .copy, [t, t'], [x, y] => t' = t ∧ cpV P σ.H t x y fun v wr rd => K ⟨v, [], wr, rd⟩
  | _, _, _ => extV P n o σ K

def opV (P : Program) (n : Nat) (σ : St) (o : Oper) (K : Eff → Prop) : Prop :=
  match o.op with
  | .store t y z => o.dst = none ∧ withO (getT σ.T y) fun p => withO (getT σ.T z) fun x => withO (cellsA x) fun ys => (TL P t).ok = true ∧ ys.length = (TL P t).size ∧ stV σ.H p ys fun wr rd => K ⟨.any, [], wr, rd⟩
  | op => dstOk n o.dst ∧ match op with
    | .move x => withO (getT σ.T x) fun v => K ⟨v, [], [], []⟩
    | .assign x => withO (getT σ.T x) fun v => K ⟨v, [], [], []⟩
    | .pick c a b => withO (getT σ.T c) fun cv => match cv with
      | .d (.bool t) => (t = true → withO (getT σ.T a) fun v => K ⟨v, [], [], []⟩) ∧ (t = false → withO (getT σ.T b) fun v => K ⟨v, [], [], []⟩)
      | _ => False
    | .extract y k => withO (getT σ.T y) fun v => match v with
      | .tup xs => withO xs[k]? fun x => K ⟨x, [], [], []⟩
      | _ => False
    | .box t y => withO (getT σ.T y) fun x => withO (cellsA x) fun cs => K ⟨.ptr σ.h.length 0, [.box t cs], [], []⟩
    | .alloc t => withO (TL P t).zero fun cs => K ⟨.ptr σ.h.length 0, [.box t cs], [], []⟩
    | .load t y => withO (getT σ.T y) fun p => atV σ.H p fun xs rd => ldV P t xs fun x => K ⟨x, [], [], rd⟩
    | .fieldAddr t y k => withO (getT σ.T y) fun p => faV P t k p fun x => K ⟨x, [], [], []⟩
    | .indexAddr t y z => withO (getT σ.T y) fun p => withO (getT σ.T z) fun q => match q with
      | .d (.int _ i) => iaV P t p i fun x => K ⟨x, [], [], []⟩
      | _ => False
    | .binOp op t y z _ => withO (getT σ.T y) fun p => withO (getT σ.T z) fun q => binV P op t p q fun x => K ⟨x, [], [], []⟩
    | .unOp op _ y => withO (getT σ.T y) fun p => unV op p fun x => K ⟨x, [], [], []⟩
    | .convert s t y => withO (getT σ.T y) fun p => match p with
      | .d (.int _ i) => (TL P s).ok = true ∧ (TL P t).ok = true ∧ withO (TL P t).ik fun k => fitV k i fun j => K ⟨.d (.int k j), [], [], []⟩
      | _ => False
    | .build t parts => withO (getP σ.T parts.toList) fun ps => buildV P t ps fun x => K ⟨x, [], [], []⟩
    | .buildSlice t len parts => withO (getP σ.T parts.toList) fun ps => bsV P t len ps fun ob sz => K ⟨.row σ.h.length sz 0 len, [ob], [], []⟩
    | .makeSlice t y z => withO (getT σ.T y) fun l => withO (getT σ.T z) fun c => mkV P t l c fun ob sz m => K ⟨.row σ.h.length sz 0 m, [ob], [], []⟩
    | .slice t y lo hi mx => withO (getT σ.T y) fun x => sliceV P t x σ.T σ.H lo hi mx fun v rd => K ⟨v, [], [], rd⟩
    | .field t y k => withO (getT σ.T y) fun x => fieldV P t k x fun x => K ⟨x, [], [], []⟩
    | .nilCheck y => withO (getT σ.T y) fun x => nilcV x fun x => K ⟨x, [], [], []⟩
    | .makeFunc fn first caps => (match fn with
      | .func f => first.toList = [] ∧ withO (gets σ.T caps.toList) fun xs => K ⟨.fn f xs, [], [], []⟩
      | _ => False)
    | .call c => (match c.callee with
      | .value g => withO (getT σ.T g) fun gv => withO (gets σ.T c.args.toList) fun xs => callV P n o σ gv xs K
      | .builtin b => withO (gets σ.T c.args.toList) fun xs => builtinV P n o σ b c.argTypes.toList xs K
      | _ => extV P n o σ K)
    | _ => extV P n o σ K

theorem opV_sound {cx : Cx} {σ : St} {o : Oper} {K : Eff → Prop} (h : opV cx.P cx.n σ o K) : ∃ e, LocOp cx σ.h.length σ.T σ.H o e ∧ K e := by
  unfold opV at h
  cases ho : o.op with
  | store t y z =>
    simp only [ho] at h
    obtain ⟨hd, p, hp, x, hx, ys, hys, hok, hlen, h⟩ := h
    exact loc_store hd ho hp hx hys hok hlen h
  | move x =>
    simp only [ho] at h
    obtain ⟨hd, v, hv, hK⟩ := h
    exact ⟨_, loc_move hd (.inl ho) hv, hK⟩
  | assign x =>
    simp only [ho] at h
    obtain ⟨hd, v, hv, hK⟩ := h
    exact ⟨_, loc_move hd (.inr ho) hv, hK⟩
  | pick c a b =>
    simp only [ho] at h
    obtain ⟨hd, cv, hc, h⟩ := h
    split at h
    · rename_i t
      cases t with
      | true => obtain ⟨v, hv, hK⟩ := h.1 rfl; exact ⟨_, loc_pick (b := true) hd ho hc hv, hK⟩
      | false => obtain ⟨v, hv, hK⟩ := h.2 rfl; exact ⟨_, loc_pick (b := false) hd ho hc hv, hK⟩
    · exact h.elim
  | extract y k =>
    simp only [ho] at h
    obtain ⟨hd, v, hv, h⟩ := h
    split at h
    · obtain ⟨x, hx, hK⟩ := h; exact ⟨_, loc_extract hd ho hv hx, hK⟩
    · exact h.elim
  | box t y =>
    simp only [ho] at h
    obtain ⟨hd, x, hx, cs, hcs, hK⟩ := h
    exact ⟨_, loc_box hd ho hx hcs, hK⟩
  | alloc t =>
    simp only [ho] at h
    obtain ⟨hd, cs, hcs, hK⟩ := h
    exact ⟨_, loc_alloc hd ho hcs, hK⟩
  | load t y =>
    simp only [ho] at h
    obtain ⟨hd, p, hp, h⟩ := h
    exact loc_load hd ho hp h
  | fieldAddr t y k =>
    simp only [ho] at h
    obtain ⟨hd, p, hp, h⟩ := h
    exact loc_fieldAddr hd ho hp h
  | indexAddr t y z =>
    simp only [ho] at h
    obtain ⟨hd, p, hp, q, hq, h⟩ := h
    split at h
    · exact loc_indexAddr hd ho hp hq h
    · exact h.elim
  | binOp op t y z t' =>
    simp only [ho] at h
    obtain ⟨hd, p, hp, q, hq, h⟩ := h
    exact loc_binOp hd ho hp hq h
  | unOp op t y =>
    simp only [ho] at h
    obtain ⟨hd, p, hp, h⟩ := h
    exact loc_unOp hd ho hp h
  | convert s t y =>
    simp only [ho] at h
    obtain ⟨hd, p, hp, h⟩ := h
    split at h
    · obtain ⟨h1, h2, k, hk, hK⟩ := h; exact ⟨_, loc_convert hd ho hp h1 h2 hk, hK⟩
    · exact h.elim
  | build t parts =>
    simp only [ho] at h
    obtain ⟨hd, ps, hp, h⟩ := h
    exact loc_build hd ho hp h
  | buildSlice t len parts =>
    simp only [ho] at h
    obtain ⟨hd, ps, hp, h⟩ := h
    exact loc_buildSlice hd ho hp h
  | makeSlice t y z =>
    simp only [ho] at h
    obtain ⟨hd, l, hl, c, hc, h⟩ := h
    exact loc_makeSlice hd ho hl hc h
  | slice t y lo hi mx =>
    simp only [ho] at h
    obtain ⟨hd, x, hx, h⟩ := h
    rcases h with ⟨rfl, h⟩ | h | h
    · exact loc_slice hd ho hx h
    · exact loc_slice2 hd ho hx h
    · exact loc_slice3 hd ho hx h
  | field t y k =>
    simp only [ho] at h
    obtain ⟨hd, x, hx, h⟩ := h
    exact loc_field hd ho hx h
  | nilCheck y =>
    simp only [ho] at h
    obtain ⟨hd, x, hx, h⟩ := h
    exact loc_nilCheck hd ho hx h
  | makeFunc fn first caps =>
    simp only [ho] at h
    obtain ⟨hd, h⟩ := h
    split at h
    · obtain ⟨hf, xs, hx, hK⟩ := h
      have : first = #[] := by simpa using hf
      subst this
      exact ⟨_, loc_makeFunc hd ho hx, hK⟩
    · exact h.elim
  | call c =>
    simp only [ho] at h
    obtain ⟨hd, h⟩ := h
    split at h
    · rename_i g hg
      obtain ⟨gv, hgv, xs, hxs, h⟩ := h
      unfold callV at h
      refine Or.elim h (fun h => ?_) (fun ⟨e, he, hK⟩ => ⟨e, he cx rfl rfl, hK⟩)
      split at h
      · rcases h with h | h
        · obtain ⟨ys, rd, h, s1, s2⟩ := snapAs_rep h
          obtain ⟨cs, rd2, h, s3, s4⟩ := snapL_rep h
          obtain ⟨s, hok, hal, res, outs, hrel, hK⟩ := h
          exact ⟨_, loc_enter hd ho hg hgv hxs ⟨s1, s2⟩ ⟨s3, s4⟩ hal hok.1 hok.2 hrel, hK⟩
        · obtain ⟨s, J, hok, hJ, h⟩ := h
          obtain ⟨ys, rd, h, s1, s2⟩ := lendAs_rep h
          obtain ⟨ins, h, s3, s4⟩ := insV_rep h
          obtain ⟨hal, hdj, res, outs, hrel, hK⟩ := h
          refine ⟨_, loc_lend hd ho hg hgv hxs ⟨s1, s2⟩ ⟨s3, s4⟩ hJ (fun i hi hij => ?_) hal hok.1 hok.2 hrel, hK⟩
          have := List.all_eq_true.1 hdj i hi
          simp [hij] at this
      · exact h.elim
    · rename_i b hb
      obtain ⟨xs, hxs, h⟩ := h
      obtain ⟨gl, gg⟩ := gets_get hxs
      have form : ∀ (as : List Operand) (tt : List TypeId), c.args.toList = as → c.argTypes.toList = tt → o.op = .call { callee := .builtin b, args := as.toArray, argTypes := tt.toArray } := by
        rintro as tt rfl rfl
        rw [ho]; congr 1
        cases c; simp_all
      unfold builtinV at h
      split at h
      · rename_i t x htt
        obtain ⟨y, hy⟩ : ∃ y, c.args.toList = [y] := List.length_eq_one_iff.1 (by rw [← gl]; rfl)
        exact loc_len hd (form _ _ hy htt) (gg 0 y x (by simp [hy]) rfl) h
      · rename_i t t' x k m htt
        obtain ⟨a, b', hab⟩ : ∃ a b, c.args.toList = [a, b] := len_two (by rw [← gl]; rfl)
        exact loc_appendZ hd (form _ _ hab htt) (gg 0 a x (by simp [hab]) rfl) (gg 1 b' _ (by simp [hab]) rfl) h
      · rename_i t t' x y hnint htt
        obtain ⟨rfl, h⟩ := h
        obtain ⟨a, b', hab⟩ : ∃ a b, c.args.toList = [a, b] := len_two (by rw [← gl]; rfl)
        rcases h with h | h
        · exact loc_append hd (form _ _ hab htt) (gg 0 a x (by simp [hab]) rfl) (gg 1 b' y (by simp [hab]) rfl) h
        · exact loc_appendI hd (form _ _ hab htt) (gg 0 a x (by simp [hab]) rfl) (gg 1 b' y (by simp [hab]) rfl) h
      · rename_i t x htt
        obtain ⟨y, hy⟩ : ∃ y, c.args.toList = [y] := List.length_eq_one_iff.1 (by rw [← gl]; rfl)
        exact loc_clear hd (form _ _ hy htt) (gg 0 y x (by simp [hy]) rfl) h
      · rename_i x y
        obtain ⟨a, b', hab⟩ : ∃ a b, c.args.toList = [a, b] := len_two (by rw [← gl]; rfl)
        exact loc_min hd (form _ _ hab rfl) (gg 0 a x (by simp [hab]) rfl) (gg 1 b' y (by simp [hab]) rfl) h
      · rename_i x y
        obtain ⟨a, b', hab⟩ : ∃ a b, c.args.toList = [a, b] := len_two (by rw [← gl]; rfl)
        exact loc_max hd (form _ _ hab rfl) (gg 0 a x (by simp [hab]) rfl) (gg 1 b' y (by simp [hab]) rfl) h
      · rename_i t x htt
        obtain ⟨y, hy⟩ : ∃ y, c.args.toList = [y] := List.length_eq_one_iff.1 (by rw [← gl]; rfl)
        exact loc_cap hd (form _ _ hy htt) (gg 0 y x (by simp [hy]) rfl) h
      · rename_i t t' x y htt
        obtain ⟨rfl, h⟩ := h
        obtain ⟨a, b', hab⟩ : ∃ a b, c.args.toList = [a, b] := len_two (by rw [← gl]; rfl)
        exact loc_copy hd (form _ _ hab htt) (gg 0 a x (by simp [hab]) rfl) (gg 1 b' y (by simp [hab]) rfl) h
      · obtain ⟨e, he, hK⟩ := h; exact ⟨e, he cx rfl rfl, hK⟩
    · obtain ⟨e, he, hK⟩ := h; exact ⟨e, he cx rfl rfl, hK⟩
  | _ => simp only [ho] at h; obtain ⟨e, he, hK⟩ := h.2; exact ⟨e, he cx rfl rfl, hK⟩

/-! ### states -/
def wrH : List (Option Ob) → List (Nat × Option Ob) → List (Option Ob)
  | h, [] => h
  | h, (i, x) :: l => (wrH h l).set i x
def wrOk (n : Nat) : List (Nat × Option Ob) → Bool
  | [] => true
  | (i, _) :: l => decide (i < n) && wrOk n l
def St.app (σ : St) (dst : Option Tmp) (e : Eff) : St :=
  ⟨match dst with | some d => (d, e.val) :: σ.t | none => σ.t, wrH σ.h e.wr ++ e.news.map some⟩

theorem wrH_len : ∀ (l : List (Nat × Option Ob)) (h : List (Option Ob)), (wrH h l).length = h.length
  | [], _ => rfl
  | (i, x) :: l, h => by simp [wrH, wrH_len l h]
theorem wrH_get : ∀ (l : List (Nat × Option Ob)) (h : List (Option Ob)) (j : Nat), wrOk h.length l = true → ((wrH h l)[j]?).join = match (l.find? (fun p => p.1 == j)).map (·.2) with | some x => x | none => (h[j]?).join
  | [], h, j, _ => by simp [wrH]
  | (i, x) :: l, h, j, hok => by
    simp only [wrOk, Bool.and_eq_true, decide_eq_true_eq] at hok
    simp only [wrH, List.getElem?_set, List.find?_cons]
    by_cases hij : i = j
    · subst hij
      simp [wrH_len, hok.1]
    · have : (i == j) = false := by simp [hij]
      simp only [if_neg hij, this]
      exact wrH_get l h j hok.2

theorem St.app_H (σ : St) (dst : Option Tmp) (e : Eff) (hok : wrOk σ.h.length e.wr = true) : (σ.app dst e).H = appH σ.h.length e σ.H := by
  funext j
  simp only [St.H, St.app, appH, Eff.wlook]
  by_cases hj : σ.h.length ≤ j
  · rw [List.getElem?_append_right (by rw [wrH_len]; exact hj), wrH_len, List.getElem?_map]
    by_cases hlt : j < σ.h.length + e.news.length
    · rw [if_pos ⟨hj, hlt⟩]
      cases e.news[j - σ.h.length]? <;> rfl
    · rw [if_neg (by omega), List.getElem?_eq_none (by omega)]
      have h1 := wrH_get e.wr σ.h j hok
      rw [List.getElem?_eq_none (by rw [wrH_len]; exact hj)] at h1
      exact h1
  · rw [if_neg (by omega), List.getElem?_append_left (by rw [wrH_len]; omega)]
    exact wrH_get e.wr σ.h j hok

theorem St.app_T (σ : St) (dst : Option Tmp) (e : Eff) : (σ.app dst e).T = appT dst e.val σ.T := by
  funext s
  cases dst with
  | none => simp [St.T, St.app, appT]
  | some d =>
    simp only [St.T, St.app, appT, look, Option.some.injEq]
    by_cases h : s = d
    · subst h; simp
    · rw [if_neg h, if_neg (fun e => h e.symm)]
theorem St.app_len (σ : St) (dst : Option Tmp) (e : Eff) : (σ.app dst e).h.length = σ.h.length + e.news.length := by simp [St.app, wrH_len]

structure RRs (cx : Cx) (σ : St) (μ : Mu) (a : Act) (w : World) : Prop where
  rr : RR cx σ.H σ.T μ a w
  mu : ∀ i, σ.h.length ≤ i → μ i = none
  bor : ∀ i, i < cx.k → μ i = cx.mu0 i
  kle : cx.k ≤ σ.h.length

def skipE : Eff := ⟨.tup [], [], [], []⟩

/-- the operations in the order of the text; 'ds': the slots that the region's operations write -/
def gdV (ds : List (Option Tmp)) (σ : St) (o : Oper) (yes no : Prop) : Prop :=
  match o.guard with
  | none => yes
  | some (g, want) => match ds[g]? with
    | some (some s) => withO (look σ.t s) fun v => match v with
      | .d (.bool b) => (b = want → yes) ∧ (b = !want → no)
      | .tup [] => no
      | _ => False
    | _ => False

def opsV (P : Program) (n : Nat) (ds : List (Option Tmp)) : List Oper → St → (St → Prop) → Prop
  | [], σ, K => K σ
  | o :: rest, σ, K => gdV ds σ o (opV P n σ o fun e => wrOk σ.h.length e.wr = true ∧ opsV P n ds rest (σ.app o.dst e) K) (dstOk n o.dst ∧ opsV P n ds rest (σ.app o.dst skipE) K)

theorem yielded_of {cx : Cx} {H : Nat → Option Ob} {T : Nat → Option AV} {μ : Mu} {a : Act} {w : World} (hr : RR cx H T μ a w) {ops : Array Oper} {g s : Nat} {b : Bool} (hs : (ops[g]?).bind (·.dst) = some s) (ht : T s = some (.d (.bool b))) : yielded ops a.tmps g = some b := by
  obtain ⟨v, h1, h2⟩ := hr.tm s _ ht
  cases h2 with | d h2 => cases h2; simp [yielded, hs, h1]

theorem yielded_none {cx : Cx} {H : Nat → Option Ob} {T : Nat → Option AV} {μ : Mu} {a : Act} {w : World} (hr : RR cx H T μ a w) {ops : Array Oper} {g s : Nat} (hs : (ops[g]?).bind (·.dst) = some s) (ht : T s = some (.tup [])) : yielded ops a.tmps g = none := by
  obtain ⟨v, h1, h2⟩ := hr.tm s _ ht
  cases h2; simp [yielded, hs, h1]

theorem opsV_sound {cx : Cx} {ops : Array Oper} {Q : Exit → Act → World → Prop} : ∀ (l : List Oper) (σ : St) (K : St → Prop) (μ : Mu) (a : Act) (w : World), opsV cx.P cx.n (ops.toList.map (·.dst)) l σ K → RRs cx σ μ a w →
    (∀ σ' μ' a' w', K σ' → RRs cx σ' μ' a' w' → Q .normal a' w') → wpList cx.P ops Q l a w
  | [], σ, K, μ, a, w, h, hr, hQ => hQ σ μ a w h hr
  | o :: rest, σ, K, μ, a, w, h, hr, hQ => by
    have step : ∀ e : Eff, wrOk σ.h.length e.wr = true → opsV cx.P cx.n (ops.toList.map (·.dst)) rest (σ.app o.dst e) K → ∀ a' w' μ', RR cx (appH σ.h.length e σ.H) (appT o.dst e.val σ.T) μ' a' w' → (∀ i x, μ i = some x → μ' i = some x) →
        (∀ i, μ' i ≠ none → μ i ≠ none ∨ (σ.h.length ≤ i ∧ i < σ.h.length + e.news.length)) → wpList cx.P ops Q rest a' w' := by
      intro e hok hrest a' w' μ' h1 h2 h3
      refine opsV_sound rest _ K μ' a' w' hrest ⟨by rw [St.app_H _ _ _ hok, St.app_T]; exact h1, fun i hi => ?_, fun i hi => ?_, by rw [St.app_len]; have := hr.kle; omega⟩ hQ
      · rw [St.app_len] at hi
        by_cases hne : μ' i = none
        · exact hne
        · rcases h3 i hne with h4 | h4
          · exact absurd (hr.mu i (by omega)) h4
          · omega
      · have hb := hr.bor i hi
        cases hm : μ i with
        | some x => rw [h2 i x hm, ← hb, hm]
        | none =>
          by_cases hne : μ' i = none
          · rw [hne, ← hb, hm]
          · rcases h3 i hne with h4 | h4
            · exact absurd hm h4
            · have := hr.kle; omega
    have yes : opV cx.P cx.n σ o (fun e => wrOk σ.h.length e.wr = true ∧ opsV cx.P cx.n (ops.toList.map (·.dst)) rest (σ.app o.dst e) K) → o.wp cx.P a w (wpList cx.P ops Q rest) Q := by
      intro h
      obtain ⟨e, hloc, hok, hrest⟩ := opV_sound h
      exact hloc σ.H σ.T μ a w _ Q hr.rr (fun _ _ => rfl) (fun _ _ => rfl) (fun k _ => hr.mu _ (by omega)) (step e hok hrest)
    have no : (dstOk cx.n o.dst ∧ opsV cx.P cx.n (ops.toList.map (·.dst)) rest (σ.app o.dst skipE) K) → wpList cx.P ops Q rest (a.put o.dst undef) w := by
      rintro ⟨hd, h⟩
      refine step skipE rfl h _ _ μ ?_ (fun _ _ h => h) (fun i h => .inl h)
      have : appH σ.h.length skipE σ.H = σ.H := appH_id _ _ _ _
      rw [this]
      exact hr.rr.putD hd (.tup rfl (by simp))
    simp only [opsV, gdV] at h
    unfold wpList
    cases hg : o.guard with
    | none =>
      simp only [hg] at h
      rw [if_pos (by simp [Region.wanted, hg])]
      exact .inl (yes h)
    | some gw =>
      obtain ⟨g, want⟩ := gw
      simp only [hg] at h
      split at h
      · rename_i s hds
        obtain ⟨v, hv, h⟩ := h
        have hs : (ops[g]?).bind (·.dst) = some s := by
          rw [List.getElem?_map] at hds
          cases hq : ops[g]? with
          | none => simp [hq] at hds
          | some q => simp [hq] at hds; simp [hds]
        split at h
        · rename_i b
          have hy := yielded_of hr.rr (ops := ops) (g := g) hs hv
          by_cases hb : b = want
          · rw [if_pos (by simp [Region.wanted, hg, hy, hb])]
            exact .inl (yes (h.1 hb))
          · rw [if_neg (by simp [Region.wanted, hg, hy, hb])]
            exact no (h.2 (by cases b <;> cases want <;> simp_all))
        · have hy := yielded_none hr.rr (ops := ops) (g := g) hs hv
          rw [if_neg (by simp [Region.wanted, hg, hy])]
          exact no h
        · exact h.elim
      · exact h.elim
end Go.Proofs.Ytniiaaagammebaa

/- Engine, part L: a region that draws its order: the order of the text serves, if what stands in no order does not touch. -/
namespace Go.Proofs.Ytniiaaagammebaa
open Go.RowKit

abbrev Foot := List Nat × List Nat
def footE (n0 : Nat) (e : Eff) : Foot := (e.rd, e.wr.map (·.1) ++ List.range' n0 e.news.length)

def opsD (P : Program) (n : Nat) (ds : List (Option Tmp)) : List Oper → St → List Foot → (List Foot → St → Prop) → Prop
  | [], σ, acc, K => K acc σ
  | o :: rest, σ, acc, K => gdV ds σ o (opV P n σ o fun e => wrOk σ.h.length e.wr = true ∧ opsD P n ds rest (σ.app o.dst e) (acc ++ [footE σ.h.length e]) K)
      (dstOk n o.dst ∧ opsD P n ds rest (σ.app o.dst skipE) (acc ++ [footE σ.h.length skipE]) K)

/-- as LocOp, the guard included -/
def LocW (cx : Cx) (ops : Array Oper) (σ : St) (o : Oper) (e : Eff) : Prop :=
  ∀ (H : Nat → Option Ob) (T : Nat → Option AV) (μ : Mu) (a : Act) (w : World) (K : Act → World → Prop) (Q : Exit → Act → World → Prop), RR cx H T μ a w →
    (∀ t, t ∈ o.looksAt ops → T t = σ.T t) → (∀ i, (i ∈ e.rd ∨ i ∈ e.wr.map (·.1)) → H i = σ.H i) → (∀ k, k < e.news.length → μ (σ.h.length + k) = none) →
    (∀ a' w' μ', RR cx (appH σ.h.length e H) (appT o.dst e.val T) μ' a' w' → (∀ i x, μ i = some x → μ' i = some x) → (∀ i, μ' i ≠ none → μ i ≠ none ∨ (σ.h.length ≤ i ∧ i < σ.h.length + e.news.length)) → K a' w') →
    if Region.wanted o (yielded ops a.tmps) = true then o.wp cx.P a w K Q else K (a.put o.dst undef) w

def GoodRun (cx : Cx) (ops : Array Oper) : List Oper → List Eff → St → Prop
  | [], [], _ => True
  | o :: l, e :: es, σ => LocW cx ops σ o e ∧ wrOk σ.h.length e.wr = true ∧ GoodRun cx ops l es (σ.app o.dst e)
  | _, _, _ => False
def stepsS : List Oper → List Eff → St → St
  | o :: l, e :: es, σ => stepsS l es (σ.app o.dst e)
  | _, _, σ => σ
def feetS : List Oper → List Eff → St → List Foot
  | o :: l, e :: es, σ => footE σ.h.length e :: feetS l es (σ.app o.dst e)
  | _, _, _ => []

theorem opsD_run {cx : Cx} {ops : Array Oper} : ∀ (l : List Oper) (σ : St) (acc : List Foot) (K : List Foot → St → Prop), opsD cx.P cx.n (ops.toList.map (·.dst)) l σ acc K →
    ∃ es, GoodRun cx ops l es σ ∧ K (acc ++ feetS l es σ) (stepsS l es σ)
  | [], σ, acc, K, h => ⟨[], trivial, by simpa [feetS, stepsS, opsD] using h⟩
  | o :: rest, σ, acc, K, h => by
    have yes : (∀ (H : Nat → Option Ob) (T : Nat → Option AV) (μ : Mu) (a : Act) (w : World), RR cx H T μ a w → (∀ t, t ∈ o.looksAt ops → T t = σ.T t) → Region.wanted o (yielded ops a.tmps) = true) →
        opV cx.P cx.n σ o (fun e => wrOk σ.h.length e.wr = true ∧ opsD cx.P cx.n (ops.toList.map (·.dst)) rest (σ.app o.dst e) (acc ++ [footE σ.h.length e]) K) →
        ∃ es, GoodRun cx ops (o :: rest) es σ ∧ K (acc ++ feetS (o :: rest) es σ) (stepsS (o :: rest) es σ) := by
      intro hw h
      obtain ⟨e, hloc, hok, hrest⟩ := opV_sound h
      obtain ⟨es, h1, h2⟩ := opsD_run rest _ _ K hrest
      refine ⟨e :: es, ⟨fun H T μ a w K Q hr hT hH hn hk => ?_, hok, h1⟩, by simpa [feetS, stepsS, List.append_assoc] using h2⟩
      rw [if_pos (hw H T μ a w hr hT)]
      exact hloc H T μ a w K Q hr (fun t ht => hT t (List.mem_append_left _ (List.mem_filterMap.2 ⟨.tmp t, by simpa using ht, rfl⟩))) hH hn hk
    have no : (∀ (H : Nat → Option Ob) (T : Nat → Option AV) (μ : Mu) (a : Act) (w : World), RR cx H T μ a w → (∀ t, t ∈ o.looksAt ops → T t = σ.T t) → Region.wanted o (yielded ops a.tmps) = false) →
        (dstOk cx.n o.dst ∧ opsD cx.P cx.n (ops.toList.map (·.dst)) rest (σ.app o.dst skipE) (acc ++ [footE σ.h.length skipE]) K) →
        ∃ es, GoodRun cx ops (o :: rest) es σ ∧ K (acc ++ feetS (o :: rest) es σ) (stepsS (o :: rest) es σ) := by
      rintro hw ⟨hd, h⟩
      obtain ⟨es, h1, h2⟩ := opsD_run rest _ _ K h
      refine ⟨skipE :: es, ⟨fun H T μ a w K Q hr hT hH hn hk => ?_, rfl, h1⟩, by simpa [feetS, stepsS, List.append_assoc] using h2⟩
      rw [if_neg (by rw [hw H T μ a w hr hT]; simp)]
      refine hk _ _ μ ?_ (fun _ _ h => h) (fun i h => .inl h)
      have : appH σ.h.length skipE H = H := appH_id _ _ _ _
      rw [this]
      exact hr.putD hd (.tup rfl (by simp))
    simp only [opsD, gdV] at h
    cases hg : o.guard with
    | none => simp only [hg] at h; exact yes (fun _ _ _ _ _ _ _ => by simp [Region.wanted, hg]) h
    | some gw =>
      obtain ⟨g, want⟩ := gw
      simp only [hg] at h
      split at h
      · rename_i s hds
        obtain ⟨v, hv, h⟩ := h
        have hs : (ops[g]?).bind (·.dst) = some s := by
          rw [List.getElem?_map] at hds
          cases hq : ops[g]? with
          | none => simp [hq] at hds
          | some q => simp [hq] at hds; simp [hds]
        split at h
        · rename_i b
          have hy : ∀ (H : Nat → Option Ob) (T : Nat → Option AV) (μ : Mu) (a : Act) (w : World), RR cx H T μ a w → (∀ t, t ∈ o.looksAt ops → T t = σ.T t) → yielded ops a.tmps g = some b := fun H T μ a w hr hT =>
            yielded_of hr hs ((hT s (by simp [Oper.looksAt, hg, hs])).trans hv)
          by_cases hb : b = want
          · exact yes (fun H T μ a w hr hT => by simp [Region.wanted, hg, hy H T μ a w hr hT, hb]) (h.1 hb)
          · exact no (fun H T μ a w hr hT => by simp [Region.wanted, hg, hy H T μ a w hr hT, hb]) (h.2 (by cases b <;> cases want <;> simp_all))
        · have hy : ∀ (H : Nat → Option Ob) (T : Nat → Option AV) (μ : Mu) (a : Act) (w : World), RR cx H T μ a w → (∀ t, t ∈ o.looksAt ops → T t = σ.T t) → yielded ops a.tmps g = none := fun H T μ a w hr hT =>
            yielded_none hr hs ((hT s (by simp [Oper.looksAt, hg, hs])).trans hv)
          exact no (fun H T μ a w hr hT => by simp [Region.wanted, hg, hy H T μ a w hr hT]) h
        · exact h.elim
      · exact h.elim

/-! ### the check -/
def dirs (o : Oper) : List Nat := (o.after.toList.filter (Region.binds .any ·)).map (·.on)
def befN : List Oper → List Nat → List Nat
  | [], acc => acc
  | o :: r, acc => befN r (acc ++ [(dirs o).foldl (fun s d => s ||| 2 ^ d ||| acc.getD d 0) 0])

def meets (a b : List Nat) : Bool := a.any fun q => b.contains q
def cfl (ops : Array Oper) (oi oj : Oper) (fi fj : Foot) : Bool :=
  (match oi.dst with | some d => (oj.looksAt ops).contains d || oj.dst == some d | none => false) ||
  (match oj.dst with | some d => (oi.looksAt ops).contains d | none => false) ||
  meets fi.2 fj.1 || meets fi.2 fj.2 || meets fj.2 fi.1

def chkR (ops : Array Oper) (feet : List Foot) : Bool :=
  let B := befN ops.toList []
  (List.range ops.size).all fun j => match ops[j]? with
    | some oj => (dirs oj).all (fun d => decide (d < j)) && (List.range j).all fun i => match ops[i]? with
      | some oi => !cfl ops oi oj (feet.getD i ([], [])) (feet.getD j ([], [])) || (B.getD j 0).testBit i
      | none => true
    | none => true

theorem fold_bit (acc : List Nat) : ∀ (l : List Nat) (s i : Nat), (l.foldl (fun s d => s ||| 2 ^ d ||| acc.getD d 0) s).testBit i = true → s.testBit i = true ∨ ∃ d ∈ l, i = d ∨ (acc.getD d 0).testBit i = true
  | [], s, i, h => .inl h
  | d :: l, s, i, h => by
    rcases fold_bit acc l _ i h with h | ⟨d', h1, h2⟩
    · simp only [Nat.testBit_or, Bool.or_eq_true, Nat.testBit_two_pow, decide_eq_true_eq] at h
      rcases h with (h | h) | h
      · exact .inl h
      · exact .inr ⟨d, by simp, .inl h.symm⟩
      · exact .inr ⟨d, by simp, .inr h⟩
    · exact .inr ⟨d', by simp [h1], h2⟩

def GoodB (ops : List Oper) (acc : List Nat) : Prop := ∀ (j x : Nat), acc[j]? = some x → ∀ i, x.testBit i = true → ∃ o d, ops[j]? = some o ∧ d ∈ dirs o ∧ (i = d ∨ (acc.getD d 0).testBit i = true)

theorem befN_good (ops : List Oper) : ∀ (r pre : List Oper) (acc : List Nat), ops = pre ++ r → acc.length = pre.length → GoodB ops acc → GoodB ops (befN r acc)
  | [], pre, acc, _, _, h => h
  | o :: r, pre, acc, he, hl, h => by
    refine befN_good ops r (pre ++ [o]) _ (by simp [he]) (by simp [hl]) ?_
    intro j x hj i hi
    have up : ∀ d, (acc.getD d 0).testBit i = true → ((acc ++ [(dirs o).foldl (fun s d => s ||| 2 ^ d ||| acc.getD d 0) 0]).getD d 0).testBit i = true := by
      intro d hd
      by_cases hdl : d < acc.length
      · simpa [List.getD, List.getElem?_append_left hdl] using hd
      · simp [List.getD, List.getElem?_eq_none (Nat.le_of_not_lt hdl)] at hd
    by_cases hjl : j < acc.length
    · rw [List.getElem?_append_left hjl] at hj
      obtain ⟨o', d, h1, h2, h3⟩ := h j x hj i hi
      exact ⟨o', d, h1, h2, h3.imp id (up d)⟩
    · have : j = acc.length := by
        have := (List.getElem?_eq_some_iff.1 hj).1
        simp at this; omega
      subst this
      simp at hj; subst hj
      rcases fold_bit acc _ _ i hi with h0 | ⟨d, h1, h2⟩
      · simp at h0
      · exact ⟨o, d, by rw [he, hl]; simp, h1, h2.imp id (up d)⟩

/-! ### any order -/
def lastW (p : Nat → Bool) : Nat → Option Nat
  | 0 => none
  | n + 1 => if p n then some n else lastW p n
theorem lastW_congr {p q : Nat → Bool} : ∀ (n : Nat), (∀ i, i < n → p i = q i) → lastW p n = lastW q n
  | 0, _ => rfl
  | n + 1, h => by simp only [lastW, h n (by omega), lastW_congr n fun i hi => h i (by omega)]
theorem lastW_eq {p : Nat → Bool} {j : Nat} : ∀ (n : Nat), j < n → p j = true → (∀ i, j < i → i < n → p i = false) → lastW p n = some j
  | 0, h, _, _ => by omega
  | n + 1, h, hp, hl => by
    simp only [lastW]
    by_cases hj : j = n
    · subst hj; rw [if_pos hp]
    · rw [if_neg (by rw [hl n (by omega) (by omega)]; simp), lastW_eq n (by omega) hp fun i h1 h2 => hl i h1 (by omega)]

section
variable (cx : Cx) (ops : Array Oper) (es : List Eff) (σ : St)

def opA (j : Nat) : Oper := ops.getD j default
def effA (j : Nat) : Eff := es.getD j skipE
def sigA : Nat → St
  | 0 => σ
  | j + 1 => (sigA j).app (opA ops j).dst (effA es j)
def tchA (j q : Nat) : Bool := decide ((sigA ops es σ j).h.length ≤ q ∧ q < (sigA ops es σ j).h.length + (effA es j).news.length) || ((effA es j).wlook q).isSome
def conA (j q : Nat) : Option Ob := appH (sigA ops es σ j).h.length (effA es j) (fun _ => none) q
def TS (s : Nat → Bool) (t : Nat) : Option AV := match lastW (fun i => s i && ((opA ops i).dst == some t)) ops.size with
  | some i => some (effA es i).val
  | none => σ.T t
def HS (s : Nat → Bool) (q : Nat) : Option Ob := match lastW (fun i => s i && tchA ops es σ i q) ops.size with
  | some i => conA ops es σ i q
  | none => σ.H q

theorem appH_tch (j : Nat) (H : Nat → Option Ob) (q : Nat) : appH (sigA ops es σ j).h.length (effA es j) H q = if tchA ops es σ j q = true then conA ops es σ j q else H q := by
  unfold conA tchA appH
  by_cases h1 : (sigA ops es σ j).h.length ≤ q ∧ q < (sigA ops es σ j).h.length + (effA es j).news.length
  · simp [h1]
  · simp only [h1, decide_false, Bool.false_or, if_false]
    cases h2 : (effA es j).wlook q <;> simp

theorem TS_add {s : Nat → Bool} {j : Nat} (hj : j < ops.size) (hs : s j = false) (hno : ∀ i d, j < i → i < ops.size → s i = true → (opA ops j).dst = some d → (opA ops i).dst ≠ some d) :
    TS ops es σ (fun i => s i || decide (i = j)) = appT (opA ops j).dst (effA es j).val (TS ops es σ s) := by
  funext t
  unfold appT
  by_cases hd : (opA ops j).dst = some t
  · rw [if_pos hd]
    unfold TS
    rw [lastW_eq (j := j) ops.size hj (by simp [hd]) (fun i h1 h2 => ?_)]
    have : i ≠ j := by omega
    simp only [decide_eq_false this, Bool.or_false]
    cases hsi : s i with
    | false => simp
    | true => simp [hno i t h1 h2 hsi hd]
  · rw [if_neg hd]
    unfold TS
    rw [lastW_congr (q := fun i => s i && ((opA ops i).dst == some t)) ops.size (fun i hi => ?_)]
    by_cases hij : i = j
    · subst hij; simp [hs, hd]
    · simp [hij]

theorem HS_add {s : Nat → Bool} {j : Nat} (hj : j < ops.size) (hs : s j = false) (hno : ∀ i q, j < i → i < ops.size → s i = true → tchA ops es σ j q = true → tchA ops es σ i q = false) :
    HS ops es σ (fun i => s i || decide (i = j)) = appH (sigA ops es σ j).h.length (effA es j) (HS ops es σ s) := by
  funext q
  rw [appH_tch]
  by_cases hd : tchA ops es σ j q = true
  · rw [if_pos hd]
    unfold HS
    rw [lastW_eq (j := j) ops.size hj (by simp [hd]) (fun i h1 h2 => ?_)]
    have : i ≠ j := by omega
    simp only [decide_eq_false this, Bool.or_false]
    cases hsi : s i with
    | false => simp
    | true => simp [hno i q h1 h2 hsi hd]
  · rw [if_neg hd]
    unfold HS
    rw [lastW_congr (q := fun i => s i && tchA ops es σ i q) ops.size (fun i hi => ?_)]
    by_cases hij : i = j
    · subst hij; simp [hs]; simpa using hd
    · simp [hij]

theorem sig_prefix (hok : ∀ j, j < ops.size → wrOk (sigA ops es σ j).h.length (effA es j).wr = true) : ∀ j, j ≤ ops.size → (sigA ops es σ j).T = TS ops es σ (fun i => decide (i < j)) ∧ (sigA ops es σ j).H = HS ops es σ (fun i => decide (i < j))
  | 0, _ => by
    have e : ∀ (p : Nat → Bool) n, (∀ i, p i = false) → lastW p n = none := by
      intro p n hp
      induction n with
      | zero => rfl
      | succ n ih => simp [lastW, hp, ih]
    constructor
    · funext t; simp only [TS]; rw [e _ _ (by simp)]; rfl
    · funext t; simp only [HS]; rw [e _ _ (by simp)]; rfl
  | j + 1, hj => by
    obtain ⟨h1, h2⟩ := sig_prefix hok j (by omega)
    have e : (fun i => decide (i < j + 1)) = fun i => decide (i < j) || decide (i = j) := by
      funext i
      by_cases h : i < j
      · simp [h]; omega
      · by_cases h' : i = j
        · simp [h']
        · simp [h, h']; omega
    rw [e, TS_add ops es σ (by omega) (by simp) (fun i d h3 h4 h5 => by simp at h5; omega), HS_add ops es σ (by omega) (by simp) (fun i d h3 h4 h5 => by simp at h5; omega), ← h1, ← h2]
    exact ⟨St.app_T _ _ _, St.app_H _ _ _ (hok j (by omega))⟩

theorem good_at (h : GoodRun cx ops ops.toList es σ) : es.length = ops.size ∧ ∀ j, j < ops.size → LocW cx ops (sigA ops es σ j) (opA ops j) (effA es j) ∧ wrOk (sigA ops es σ j).h.length (effA es j).wr = true := by
  have key : ∀ j, j ≤ ops.size → GoodRun cx ops (ops.toList.drop j) (es.drop j) (sigA ops es σ j) := by
    intro j
    induction j with
    | zero => intro _; simpa [sigA] using h
    | succ j ih =>
      intro hj
      have h1 := ih (by omega)
      have e1 : ops.toList.drop j = opA ops j :: ops.toList.drop (j + 1) := by
        rw [List.drop_eq_getElem_cons (by simp; omega)]; simp [opA, show j < ops.size by omega]
      rw [e1] at h1
      cases he : es.drop j with
      | nil => rw [he] at h1; exact h1.elim
      | cons e es' =>
        rw [he] at h1
        have e2 : es.drop (j + 1) = es' := by rw [← List.drop_drop (i := 1) (j := j)]; simp [he]
        have e3 : effA es j = e := by
          have : es[j]? = some e := by have := congrArg (·[0]?) he; simpa using this
          simp [effA, List.getD, this]
        rw [e2, sigA, e3]
        exact h1.2.2
  constructor
  · have h1 := key ops.size (Nat.le_refl _)
    have hlen : ∀ (l : List Oper) (es : List Eff) (σ : St), GoodRun cx ops l es σ → es.length = l.length := by
      intro l
      induction l with
      | nil => intro es σ h; cases es <;> simp_all [GoodRun]
      | cons o l ih => intro es σ h; cases es with
        | nil => exact h.elim
        | cons e es => simp [ih es _ h.2.2]
    simpa using hlen _ _ _ h
  · intro j hj
    have h1 := key j (by omega)
    have e1 : ops.toList.drop j = opA ops j :: ops.toList.drop (j + 1) := by
      rw [List.drop_eq_getElem_cons (by simp; omega)]; simp [opA, hj]
    rw [e1] at h1
    cases he : es.drop j with
    | nil => rw [he] at h1; exact h1.elim
    | cons e es' =>
      rw [he] at h1
      have e3 : effA es j = e := by
        have : es[j]? = some e := by have := congrArg (·[0]?) he; simpa using this
        simp [effA, List.getD, this]
      rw [e3]
      exact ⟨h1.1, h1.2.1⟩

theorem steps_sig : ∀ (l : List Oper) (fs : List Eff) (j : Nat), ops.toList.drop j = l → es.drop j = fs → fs.length = l.length → stepsS l fs (sigA ops es σ j) = sigA ops es σ (j + l.length) ∧
    ∀ i, i < l.length → (feetS l fs (sigA ops es σ j)).getD i ([], []) = footE (sigA ops es σ (j + i)).h.length (effA es (j + i))
  | [], fs, j, _, _, _ => by simp [stepsS]
  | o :: l, [], j, _, _, h => by simp at h
  | o :: l, e :: fs, j, h1, h2, h3 => by
    have e1 : opA ops j = o := by
      have : ops.toList[j]? = some o := by have := congrArg (·[0]?) h1; simpa using this
      have h' : ops[j]? = some o := by simpa using this
      simp [opA, h']
    have e2 : effA es j = e := by
      have : es[j]? = some e := by have := congrArg (·[0]?) h2; simpa using this
      simp [effA, List.getD, this]
    have e3 : ops.toList.drop (j + 1) = l := by rw [← List.drop_drop (i := 1) (j := j)]; simp [h1]
    have e4 : es.drop (j + 1) = fs := by rw [← List.drop_drop (i := 1) (j := j)]; simp [h2]
    obtain ⟨u1, u2⟩ := steps_sig l fs (j + 1) e3 e4 (by simpa using h3)
    have e5 : (sigA ops es σ j).app o.dst e = sigA ops es σ (j + 1) := by rw [sigA, e1, e2]
    refine ⟨?_, fun i hi => ?_⟩
    · rw [stepsS, e5, u1]; congr 1; simp; omega
    · cases i with
      | zero => simp [feetS, e2]
      | succ i =>
        rw [feetS, e5]
        have := u2 i (by simpa using hi)
        simp only [List.getD_cons_succ, this]
        have e6 : j + 1 + i = j + (i + 1) := by omega
        rw [e6]
end

theorem tch_foot {ops : Array Oper} {es : List Eff} {σ : St} {j q : Nat} : tchA ops es σ j q = true ↔ q ∈ (footE (sigA ops es σ j).h.length (effA es j)).2 := by
  have hw : ∀ (l : List (Nat × Option Ob)), ((l.find? (fun p => p.1 == q)).map (·.2)).isSome = true ↔ q ∈ l.map (·.1) := by
    intro l
    induction l with
    | nil => simp
    | cons p l ih =>
      simp only [List.find?_cons]
      by_cases hp : p.1 = q
      · simp [hp]
      · have : (p.1 == q) = false := by simp [hp]
        rw [this]
        simp only [List.map_cons, List.mem_cons]
        rw [ih]
        constructor
        · exact .inr
        · rintro (h | h)
          · exact absurd h.symm hp
          · exact h
  unfold tchA footE Eff.wlook
  simp only [Bool.or_eq_true, decide_eq_true_eq, List.mem_append, List.mem_range'_1, hw]
  exact Or.comm

theorem meets_false {a b : List Nat} (h : meets a b = false) : ∀ q, q ∈ a → q ∈ b → False := by
  intro q h1 h2
  unfold meets at h
  rw [List.any_eq_false] at h
  exact h q h1 (by simpa using h2)

theorem opA_get {ops : Array Oper} {j : Nat} (hj : j < ops.size) : ops[j]? = some (opA ops j) := by simp [opA, hj]

theorem cfl_dl {ops : Array Oper} {oi oj : Oper} {fi fj : Foot} {d : Nat} (h : oi.dst = some d) (h' : d ∈ oj.looksAt ops) : cfl ops oi oj fi fj = true := by
  have : (oj.looksAt ops).contains d = true := by simpa using h'
  unfold cfl; simp only [h, this, Bool.true_or]
theorem cfl_dd {ops : Array Oper} {oi oj : Oper} {fi fj : Foot} {d : Nat} (h : oi.dst = some d) (h' : oj.dst = some d) : cfl ops oi oj fi fj = true := by
  have : (oj.dst == some d) = true := by simp [h']
  unfold cfl; simp only [h, this, Bool.or_true, Bool.true_or]
theorem cfl_ld {ops : Array Oper} {oi oj : Oper} {fi fj : Foot} {d : Nat} (h : oj.dst = some d) (h' : d ∈ oi.looksAt ops) : cfl ops oi oj fi fj = true := by
  have : (oi.looksAt ops).contains d = true := by simpa using h'
  unfold cfl; simp only [h, this, Bool.or_true, Bool.true_or]
theorem cfl_m1 {ops : Array Oper} {oi oj : Oper} {fi fj : Foot} (h : meets fi.2 fj.1 = true) : cfl ops oi oj fi fj = true := by
  unfold cfl; simp only [h, Bool.or_true, Bool.true_or]
theorem cfl_m2 {ops : Array Oper} {oi oj : Oper} {fi fj : Foot} (h : meets fi.2 fj.2 = true) : cfl ops oi oj fi fj = true := by
  unfold cfl; simp only [h, Bool.or_true, Bool.true_or]
theorem cfl_m3 {ops : Array Oper} {oi oj : Oper} {fi fj : Foot} (h : meets fj.2 fi.1 = true) : cfl ops oi oj fi fj = true := by
  unfold cfl; simp only [h, Bool.or_true]

/-- what the check says -/
theorem chk_spec {ops : Array Oper} {feet : List Foot} (h : chkR ops feet = true) : (∀ j d, j < ops.size → d ∈ dirs (opA ops j) → d < j) ∧
    ∀ i j, i < j → j < ops.size → cfl ops (opA ops i) (opA ops j) (feet.getD i ([], [])) (feet.getD j ([], [])) = true → ((befN ops.toList []).getD j 0).testBit i = true := by
  unfold chkR at h
  simp only [List.all_eq_true, List.mem_range] at h
  constructor
  · intro j d hj hd
    have := h j hj
    rw [opA_get hj] at this
    simp only [Bool.and_eq_true, List.all_eq_true, decide_eq_true_eq] at this
    exact this.1 d hd
  · intro i j hij hj hc
    have := h j hj
    rw [opA_get hj] at this
    simp only [Bool.and_eq_true, List.all_eq_true, List.mem_range] at this
    have := this.2 i hij
    rw [opA_get (by omega)] at this
    simp only [hc, Bool.not_true, Bool.false_or] at this
    exact this

/-- a set of operations that holds, with each, what must come before it -/
theorem closed_bef {ops : Array Oper} {s : Nat → Bool} (hback : ∀ j d, j < ops.size → d ∈ dirs (opA ops j) → d < j) (hcl : ∀ j d, j < ops.size → s j = true → d ∈ dirs (opA ops j) → s d = true) :
    ∀ j i, j < ops.size → s j = true → ((befN ops.toList []).getD j 0).testBit i = true → s i = true := by
  have good := befN_good ops.toList ops.toList [] [] rfl rfl (fun j x h => by simp at h)
  intro j
  induction j using Nat.strongRecOn with
  | _ j ih =>
    intro i hj hs hb
    cases hx : (befN ops.toList [])[j]? with
    | none => simp [List.getD, hx] at hb
    | some x =>
      simp only [List.getD, hx, Option.getD_some] at hb
      obtain ⟨o, d, h1, h2, h3⟩ := good j x hx i hb
      have ho : o = opA ops j := by have := opA_get hj; simp at h1; rw [this] at h1; injection h1 with h1; exact h1.symm
      subst ho
      rcases h3 with rfl | h3
      · exact hcl j _ hj hs h2
      · exact ih d (hback j d hj h2) i (by have := hback j d hj h2; omega) (hcl j d hj hs h2) h3

theorem bef_dirs {ops : Array Oper} {s : Nat → Bool} (hback : ∀ j d, j < ops.size → d ∈ dirs (opA ops j) → d < j) (hcl : ∀ j d, j < ops.size → s j = true → d ∈ dirs (opA ops j) → s d = true) {j i : Nat} (hj : j < ops.size)
    (hd : ∀ d, d ∈ dirs (opA ops j) → s d = true) (hb : ((befN ops.toList []).getD j 0).testBit i = true) : s i = true := by
  have good := befN_good ops.toList ops.toList [] [] rfl rfl (fun j x h => by simp at h)
  cases hx : (befN ops.toList [])[j]? with
  | none => simp [List.getD, hx] at hb
  | some x =>
    simp only [List.getD, hx, Option.getD_some] at hb
    obtain ⟨o, d, h1, h2, h3⟩ := good j x hx i hb
    have ho : o = opA ops j := by have := opA_get hj; simp at h1; rw [this] at h1; injection h1 with h1; exact h1.symm
    subst ho
    rcases h3 with rfl | h3
    · exact hd _ h2
    · exact closed_bef hback hcl d i (by have := hback j d hj h2; omega) (hd d h2) h3

theorem any_order {cx : Cx} {ops : Array Oper} {es : List Eff} {σ : St} {Q : Exit → Act → World → Prop} (hgood : ∀ j, j < ops.size → LocW cx ops (sigA ops es σ j) (opA ops j) (effA es j) ∧ wrOk (sigA ops es σ j).h.length (effA es j).wr = true)
    (feet : List Foot) (hfeet : ∀ j, j < ops.size → feet.getD j ([], []) = footE (sigA ops es σ j).h.length (effA es j)) (hchk : chkR ops feet = true) (hkle : cx.k ≤ σ.h.length)
    (hQ : ∀ μ a w, RRs cx (sigA ops es σ ops.size) μ a w → Q .normal a w) :
    ∀ (fuel : Nat) (listed : Array Bool) (a : Act) (w : World) (μ : Mu), listed.size = ops.size → (∀ j, j < ops.size → listed.getD j false = true → ∀ d ∈ dirs (opA ops j), listed.getD d false = true) →
      RR cx (HS ops es σ (fun i => listed.getD i false)) (TS ops es σ (fun i => listed.getD i false)) μ a w →
      (∀ q, μ q ≠ none → q < σ.h.length ∨ ∃ i, i < ops.size ∧ listed.getD i false = true ∧ (sigA ops es σ i).h.length ≤ q ∧ q < (sigA ops es σ i).h.length + (effA es i).news.length) →
      (∀ i, i < cx.k → μ i = cx.mu0 i) → (List.range ops.size).countP (fun i => !listed.getD i false) ≤ fuel → wpAny cx.P .any ops Q fuel listed a w := by
  obtain ⟨hback, hcf⟩ := chk_spec hchk
  have hlenmono : ∀ j i, j ≤ i → (sigA ops es σ j).h.length ≤ (sigA ops es σ i).h.length := by
    intro j i hji
    induction i with
    | zero => have : j = 0 := by omega
              subst this; exact Nat.le_refl _
    | succ i ih =>
      by_cases h : j = i + 1
      · subst h; exact Nat.le_refl _
      · exact Nat.le_trans (ih (by omega)) (by rw [sigA, St.app_len]; omega)
  have fin : ∀ (listed : Array Bool) (a : Act) (w : World) (μ : Mu), listed.size = ops.size → RR cx (HS ops es σ (fun i => listed.getD i false)) (TS ops es σ (fun i => listed.getD i false)) μ a w →
      (∀ q, μ q ≠ none → q < σ.h.length ∨ ∃ i, i < ops.size ∧ listed.getD i false = true ∧ (sigA ops es σ i).h.length ≤ q ∧ q < (sigA ops es σ i).h.length + (effA es i).news.length) →
      (∀ i, i < cx.k → μ i = cx.mu0 i) → (∀ i, i < ops.size → listed.getD i false = true) → Q .normal a w := by
    intro listed a w μ hsz hr hμ hbor hall
    have hp := sig_prefix ops es σ (fun j hj => (hgood j hj).2) ops.size (Nat.le_refl _)
    have eT : TS ops es σ (fun i => listed.getD i false) = TS ops es σ (fun i => decide (i < ops.size)) := by
      funext t; unfold TS; rw [lastW_congr (q := fun i => decide (i < ops.size) && ((opA ops i).dst == some t)) ops.size (fun i hi => by simp [hall i hi, hi])]
    have eH : HS ops es σ (fun i => listed.getD i false) = HS ops es σ (fun i => decide (i < ops.size)) := by
      funext t; unfold HS; rw [lastW_congr (q := fun i => decide (i < ops.size) && tchA ops es σ i t) ops.size (fun i hi => by simp [hall i hi, hi])]
    rw [eT, eH, ← hp.1, ← hp.2] at hr
    refine hQ μ a w ⟨hr, fun q hq => ?_, hbor, Nat.le_trans hkle (hlenmono 0 _ (Nat.zero_le _))⟩
    by_cases hne : μ q = none
    · exact hne
    · exfalso
      rcases hμ q hne with h | ⟨i, h1, _, h3, h4⟩
      · have := hlenmono 0 ops.size (Nat.zero_le _); simp only [sigA] at this; omega
      · have := hlenmono (i + 1) ops.size h1
        rw [sigA, St.app_len] at this; omega
  -- whoever is first among those not listed is ready
  have ready0 : ∀ (listed : Array Bool), listed.size = ops.size → (∃ j, j < ops.size ∧ listed.getD j false = false) → ∃ j, j ∈ Region.ready .any ops listed := by
    intro listed hsz hex
    obtain ⟨j, ⟨hj, hl⟩, hmin⟩ := exists_least hex
    refine ⟨j, mem_ready.2 ⟨?_, opA ops j, opA_get hj, fun e he hb => ?_⟩⟩
    · have : j < listed.size := by omega
      simp [this] at hl ⊢; exact hl
    · have hd : e.on ∈ dirs (opA ops j) := by
        unfold dirs
        exact List.mem_map.2 ⟨e, List.mem_filter.2 ⟨by simpa using he, hb⟩, rfl⟩
      have hlt := hback j _ hj hd
      by_cases hle : listed.getD e.on false = true
      · exact hle
      · have := hmin e.on ⟨by omega, by simpa using hle⟩
        omega
  intro fuel
  induction fuel with
  | zero =>
    intro listed a w μ hsz hcl hr hμ hbor hc
    have hall : ∀ i, i < ops.size → listed.getD i false = true := by
      intro i hi
      have := (List.countP_eq_zero.1 (Nat.le_zero.1 hc)) i (by simpa using hi)
      simpa using this
    refine ⟨?_, fin listed a w μ hsz hr hμ hbor hall⟩
    rw [List.eq_nil_iff_forall_not_mem]
    intro j hj
    obtain ⟨h1, o, h2, _⟩ := mem_ready.1 hj
    have hlt : j < ops.size := (Array.getElem?_eq_some_iff.1 h2).1
    have := hall j hlt
    have hjl : j < listed.size := by omega
    simp [hjl] at this h1
    rw [this] at h1; cases h1
  | succ fuel ih =>
    intro listed a w μ hsz hcl hr hμ hbor hc
    refine ⟨fun hnil => fin listed a w μ hsz hr hμ hbor fun i hi => ?_, fun j hj => ?_⟩
    · by_cases hl : listed.getD i false = true
      · exact hl
      · obtain ⟨q, hq⟩ := ready0 listed hsz ⟨i, hi, by simpa using hl⟩
        rw [hnil] at hq; cases hq
    · obtain ⟨h1, o, h2, h3⟩ := mem_ready.1 hj
      have hlt : j < ops.size := (Array.getElem?_eq_some_iff.1 h2).1
      have ho : o = opA ops j := by rw [opA_get hlt] at h2; injection h2 with h2; exact h2.symm
      subst ho
      have hjl : j < listed.size := by omega
      have hnot : listed.getD j false = false := by simp [hjl] at h1 ⊢; exact h1
      have hdirs : ∀ d ∈ dirs (opA ops j), listed.getD d false = true := by
        intro d hd
        obtain ⟨e, he, rfl⟩ := List.mem_map.1 hd
        obtain ⟨he1, he2⟩ := List.mem_filter.1 he
        exact h3 e (by simpa using he1) he2
      have hcl' : ∀ (j d : Nat), j < ops.size → listed.getD j false = true → d ∈ dirs (opA ops j) → listed.getD d false = true := fun j d h1 h2 h3 => hcl j h1 h2 d h3
      have later : ∀ i, j < i → i < ops.size → cfl ops (opA ops j) (opA ops i) (feet.getD j ([], [])) (feet.getD i ([], [])) = true → listed.getD i false = false := by
        intro i hji hi hc'
        by_cases hl : listed.getD i false = true
        · have := closed_bef (s := fun i => listed.getD i false) hback hcl' i j hi hl (hcf j i hji hi hc')
          exact absurd (hnot.symm.trans this) (by decide)
        · simpa using hl
      have earlier : ∀ i, i < j → cfl ops (opA ops i) (opA ops j) (feet.getD i ([], [])) (feet.getD j ([], [])) = true → listed.getD i false = true := by
        intro i hij hc'
        exact bef_dirs (s := fun i => listed.getD i false) hback hcl' hlt hdirs (hcf i j hij hlt hc')
      have hp := sig_prefix ops es σ (fun j hj => (hgood j hj).2) j (by omega)
      -- the slots that j looks at
      have agreeT : ∀ t, t ∈ (opA ops j).looksAt ops → TS ops es σ (fun i => listed.getD i false) t = (sigA ops es σ j).T t := by
        intro t ht
        rw [hp.1]
        unfold TS
        rw [lastW_congr (q := fun i => decide (i < j) && ((opA ops i).dst == some t)) ops.size (fun i hi => ?_)]
        by_cases hd : (opA ops i).dst = some t
        · simp only [hd, beq_self_eq_true, Bool.and_true]
          rcases Nat.lt_trichotomy i j with h | h | h
          · rw [earlier i h (cfl_dl hd ht)]; simp [h]
          · subst h; rw [hnot]; simp
          · rw [later i h hi (cfl_ld hd ht)]; simp; omega
        · have : ((opA ops i).dst == some t) = false := by simp [hd]
          simp only [this, Bool.and_false]
      have agreeH : ∀ q, (q ∈ (effA es j).rd ∨ q ∈ (effA es j).wr.map (·.1)) → HS ops es σ (fun i => listed.getD i false) q = (sigA ops es σ j).H q := by
        intro q hq
        rw [hp.2]
        unfold HS
        rw [lastW_congr (q := fun i => decide (i < j) && tchA ops es σ i q) ops.size (fun i hi => ?_)]
        cases hd : tchA ops es σ i q with
        | false => simp
        | true =>
          simp only [Bool.and_true]
          have hm := tch_foot.1 hd
          have hmt : ∀ (a b : List Nat), q ∈ a → q ∈ b → meets a b = true := fun a b h1 h2 => List.any_eq_true.2 ⟨q, h1, by simpa using h2⟩
          have hj1 : q ∈ (feet.getD j ([], [])).1 ∨ q ∈ (feet.getD j ([], [])).2 := by
            rw [hfeet j hlt]
            rcases hq with h | h
            · exact .inl h
            · exact .inr (by simp only [footE, List.mem_append]; exact .inl h)
          have hi2 : q ∈ (feet.getD i ([], [])).2 := by rw [hfeet i hi]; exact hm
          rcases Nat.lt_trichotomy i j with h | h | h
          · rw [earlier i h (by rcases hj1 with h' | h'; (· exact cfl_m1 (hmt _ _ hi2 h')); (· exact cfl_m2 (hmt _ _ hi2 h')))]; simp [h]
          · subst h; rw [hnot]; simp
          · rw [later i h hi (by rcases hj1 with h' | h'; (· exact cfl_m3 (hmt _ _ hi2 h')); (· exact cfl_m2 (hmt _ _ h' hi2)))]; simp; omega
      -- new ids are free
      have fresh : ∀ k, k < (effA es j).news.length → μ ((sigA ops es σ j).h.length + k) = none := by
        intro k hk
        by_cases hne : μ ((sigA ops es σ j).h.length + k) = none
        · exact hne
        · exfalso
          rcases hμ _ hne with h | ⟨i, u1, u2, u3, u4⟩
          · have := hlenmono 0 j (Nat.zero_le _); simp only [sigA] at this; omega
          · rcases Nat.lt_trichotomy i j with h | h | h
            · have := hlenmono (i + 1) j h
              rw [sigA, St.app_len] at this; omega
            · subst h; exact absurd (hnot.symm.trans u2) (by decide)
            · have := hlenmono (j + 1) i h
              rw [sigA, St.app_len] at this; omega
      have hl := (hgood j hlt).1 _ _ μ a w (wpAny cx.P .any ops Q fuel (listed.setIfInBounds j true)) Q hr agreeT agreeH fresh (by
        intro a' w' μ' hr' hμ' hnew'
        have eget : ∀ i, (listed.setIfInBounds j true).getD i false = (listed.getD i false || decide (i = j)) := by
          intro i
          by_cases hij : i = j
          · subst hij; simp [hjl]
          · have := getD_set_ne (listed := listed) (i := j) (j := i) false (Ne.symm hij)
            rw [this]; simp [hij]
        have efun : (fun i => (listed.setIfInBounds j true).getD i false) = fun i => listed.getD i false || decide (i = j) := funext eget
        refine ih _ a' w' μ' (by simp [hsz]) ?_ ?_ ?_ ?_ ?_
        · intro i hi hli d hd
          rw [eget] at hli ⊢
          by_cases hij : i = j
          · subst hij; simp [hdirs d hd]
          · simp [hij] at hli
            have := hcl i hi (by simpa using hli) d hd
            rw [this]; simp
        · rw [efun, TS_add ops es σ hlt hnot (fun i d h1 h2 h3 h4 h5 => ?_), HS_add ops es σ hlt hnot (fun i q h1 h2 h3 h4 => ?_)]
          · exact hr'
          · cases hd : tchA ops es σ i q with
            | false => rfl
            | true =>
              have m1 := tch_foot.1 h4
              have m2 := tch_foot.1 hd
              rw [← hfeet j hlt] at m1
              rw [← hfeet i h2] at m2
              have hmt : meets (feet.getD j ([], [])).2 (feet.getD i ([], [])).2 = true := List.any_eq_true.2 ⟨q, m1, by simpa using m2⟩
              have := later i h1 h2 (cfl_m2 hmt)
              exact absurd (this.symm.trans h3) (by decide)
          · have := later i h1 h2 (cfl_dd h4 h5)
            exact absurd (this.symm.trans h3) (by decide)
        · intro q hq
          rcases hnew' q hq with h | h
          · rcases hμ q h with h' | ⟨i, h1, h2, h3⟩
            · exact .inl h'
            · exact .inr ⟨i, h1, by rw [eget, h2]; simp, h3⟩
          · exact .inr ⟨j, hlt, by rw [eget]; simp, h⟩
        · intro i hi
          have hb := hbor i hi
          cases hm : μ i with
          | some x => rw [hμ' i x hm, ← hb, hm]
          | none =>
            by_cases hne : μ' i = none
            · rw [hne, ← hb, hm]
            · rcases hnew' i hne with h4 | h4
              · exact absurd hm h4
              · have := hlenmono 0 j (Nat.zero_le _); simp only [sigA] at this; omega
        · have hcnt : (List.range ops.size).countP (fun i => !(listed.setIfInBounds j true).getD i false) < (List.range ops.size).countP (fun i => !listed.getD i false) := by
            have e1 : (fun i => !(listed.setIfInBounds j true).getD i false) = fun i => !(listed.getD i false || decide (i = j)) := by funext i; rw [eget]
            rw [e1]
            have hmem : j ∈ List.range ops.size := by simpa using hlt
            have gen : ∀ (l : List Nat), (l.countP (fun i => !(listed.getD i false || decide (i = j)))) ≤ l.countP (fun i => !listed.getD i false) ∧ (j ∈ l → (l.countP (fun i => !(listed.getD i false || decide (i = j)))) < l.countP (fun i => !listed.getD i false)) := by
              intro l
              induction l with
              | nil => simp
              | cons x l ih' =>
                obtain ⟨g1, g2⟩ := ih'
                simp only [List.countP_cons]
                by_cases hx : x = j
                · have e1 : (!(listed.getD x false || decide (x = j))) = false := by simp [hx]
                  have e2 : (!listed.getD x false) = true := by rw [hx, hnot]; rfl
                  rw [e1, e2]
                  simp only [Bool.false_eq_true, if_false, if_true]
                  exact ⟨by omega, fun _ => by omega⟩
                · simp only [hx, decide_false, Bool.or_false]
                  refine ⟨by omega, fun hm => ?_⟩
                  have := g2 ((List.mem_cons.1 hm).resolve_left (Ne.symm hx))
                  omega
            exact (gen _).2 hmem
          omega)
      unfold wpOp
      rw [opA_get hlt]
      simp only
      split
      · rename_i hw; rw [if_pos hw] at hl; exact .inl hl
      · rename_i hw; rw [if_neg hw] at hl; exact hl

/-- the region: the order of the text, and the check -/
theorem region_draw {cx : Cx} {id : Nat} {ops : Array Oper} {σ : St} {K : St → Prop} {Q : Exit → Act → World → Prop} {μ : Mu} {a : Act} {w : World} (hm : cx.P.follows .mixedOrders = true)
    (h : opsD cx.P cx.n (ops.toList.map (·.dst)) ops.toList σ [] fun feet σ' => chkR ops feet = true ∧ K σ') (hr : RRs cx σ μ a w) (hQ : ∀ σ' μ' a' w', K σ' → RRs cx σ' μ' a' w' → Q .normal a' w') :
    (Code.region id ops true).wp cx.P Q a w := by
  obtain ⟨es, hgood, hchk, hK⟩ := opsD_run ops.toList σ [] _ h
  obtain ⟨hlen, hat⟩ := good_at cx ops es σ hgood
  obtain ⟨hst, hft⟩ := steps_sig ops es σ ops.toList es 0 rfl rfl (by simpa using hlen)
  simp only [Nat.zero_add, List.nil_append, Array.length_toList] at hst hft hchk
  have e0 : sigA ops es σ 0 = σ := rfl
  rw [e0] at hst hft
  rw [hst] at hK
  have hrep : ∀ i, (Array.replicate ops.size false).getD i false = false := by
    intro i
    by_cases hi : i < ops.size <;> simp [hi]
  have efun : (fun i => (Array.replicate ops.size false).getD i false) = fun i => decide (i < 0) := by funext i; rw [hrep]; simp
  have hp := sig_prefix ops es σ (fun j hj => (hat j hj).2) 0 (Nat.zero_le _)
  have hev : Ev w { w with drawn := w.drawn + 1 } (fun _ => False) := ⟨rfl, rfl, rfl, Nat.le_refl _, fun _ _ _ => rfl, fun _ arr _ _ _ h => ⟨arr, h, rfl⟩⟩
  refine wp_region_any hm (any_order hat _ hft hchk hr.kle (fun μ' a' w' hr' => hQ _ μ' a' w' hK hr') ops.size _ a _ μ (by simp) (fun j _ hl => by rw [hrep] at hl; cases hl) ?_ (fun q hq => ?_) hr.bor (by
    have := List.countP_le_length (p := fun i => !(Array.replicate ops.size false).getD i false) (l := List.range ops.size)
    simpa using this))
  · rw [efun, ← hp.1, ← hp.2, e0]
    have h0 := hr.rr
    refine ⟨h0.n, h0.dfr, fun s x hx => ?_, fun i o ho => ?_, h0.own, h0.inj, ⟨h0.fr.os, h0.fr.tape, h0.fr.output, h0.fr.size, h0.fr.block, h0.fr.shape⟩, h0.vlt, h0.blt⟩
    · obtain ⟨v, h1, h2⟩ := h0.tm s x hx
      exact ⟨v, h1, h2.evolve hev (fun _ h => h.elim) (fun _ h => h) (fun _ _ h => h)⟩
    · exact (h0.ob i o ho).evolve hev (fun _ h => h.elim) (fun _ h => h) (fun _ _ h => h) (fun _ _ h => h)
  · rcases Nat.lt_or_ge q σ.h.length with h | h
    · exact .inl h
    · exact absurd (hr.mu q h) hq
end Go.Proofs.Ytniiaaagammebaa

/- Engine, part M: statements, loops, whole functions. -/
namespace Go.Proofs.Ytniiaaagammebaa
open Go.RowKit

def W (cx : Cx) (c : Code) (σ : St) (Q : Exit → St → Prop) : Prop :=
  ∀ μ a w, RRs cx σ μ a w → c.wp cx.P (fun e a' w' => ∃ σ' μ', Q e σ' ∧ RRs cx σ' μ' a' w') a w

theorem W_mono {cx : Cx} {c : Code} {σ : St} {Q Q' : Exit → St → Prop} (h : W cx c σ Q) (hq : ∀ e σ, Q e σ → Q' e σ) : W cx c σ Q' :=
  fun μ a w hr => wp_mono (h μ a w hr) fun _ _ _ ⟨σ', μ', h1, h2⟩ => ⟨σ', μ', hq _ _ h1, h2⟩

theorem W_skip {cx : Cx} {σ : St} {Q : Exit → St → Prop} (h : Q .normal σ) : W cx .skip σ Q := fun μ _ _ hr => wp_skip ⟨σ, μ, h, hr⟩
theorem W_label {cx : Cx} {l : Nat} {σ : St} {Q : Exit → St → Prop} (h : Q .normal σ) : W cx (.label l) σ Q := fun μ _ _ hr => wp_label ⟨σ, μ, h, hr⟩
theorem W_ret {cx : Cx} {σ : St} {Q : Exit → St → Prop} (h : Q .ret σ) : W cx .ret σ Q := fun μ _ _ hr => wp_ret ⟨σ, μ, h, hr⟩
theorem W_exit {cx : Cx} {id : Nat} {σ : St} {Q : Exit → St → Prop} (h : Q (.exit id) σ) : W cx (.exit id) σ Q := fun μ _ _ hr => wp_exit ⟨σ, μ, h, hr⟩

def thenQ (K : St → Prop) (Q : Exit → St → Prop) : Exit → St → Prop
  | .normal, σ => K σ
  | e, σ => Q e σ
def blockQ (id : Nat) (Q : Exit → St → Prop) : Exit → St → Prop
  | .exit id', σ => if id' = id then Q .normal σ else Q (.exit id') σ
  | e, σ => Q e σ

theorem W_seq {cx : Cx} {x y : Code} {σ : St} {Q : Exit → St → Prop} (h : W cx x σ (thenQ (fun σ' => W cx y σ' Q) Q)) : W cx (.seq x y) σ Q := by
  intro μ a w hr
  refine wp_seq (wp_mono (h μ a w hr) ?_)
  rintro e a' w' ⟨σ', μ', h1, h2⟩
  cases e with
  | normal => exact h1 μ' a' w' h2
  | _ => exact ⟨σ', μ', h1, h2⟩

theorem W_block {cx : Cx} {id : Nat} {x : Code} {σ : St} {Q : Exit → St → Prop} (h : W cx x σ (blockQ id Q)) : W cx (.block id x) σ Q := by
  intro μ a w hr
  refine wp_block (wp_mono (h μ a w hr) ?_)
  rintro e a' w' ⟨σ', μ', h1, h2⟩
  cases e with
  | exit id' =>
    simp only [Exit.inBlock, blockQ] at h1 ⊢
    by_cases hid : id' = id
    · rw [if_pos hid] at h1 ⊢; exact ⟨σ', μ', h1, h2⟩
    · rw [if_neg hid] at h1 ⊢; exact ⟨σ', μ', h1, h2⟩
  | _ => exact ⟨σ', μ', h1, h2⟩

theorem W_cond {cx : Cx} {c : Operand} {x y : Code} {σ : St} {Q : Exit → St → Prop} {b : Bool} (hc : getT σ.T c = some (.d (.bool b))) (ht : b = true → W cx x σ Q) (hf : b = false → W cx y σ Q) : W cx (.cond c x y) σ Q := by
  intro μ a w hr
  have := hr.rr.eval (ts := σ.T) (fun _ _ => rfl) hc
  generalize hv : a.eval c = v at this
  cases this with
  | d this =>
    cases this
    exact wp_cond_split hv (fun h => ht h μ a w hr) (fun h => hf h μ a w hr)

/-- a test whose outcome is not known -/
theorem W_tf {cx : Cx} {c : Operand} {x y : Code} {σ : St} {Q : Exit → St → Prop} {p q : Prop} (hc : getT σ.T c = some (.tf p q)) (ht : p → W cx x σ Q) (hf : q → W cx y σ Q) : W cx (.cond c x y) σ Q := by
  intro μ a w hr
  have := hr.rr.eval (ts := σ.T) (fun _ _ => rfl) hc
  generalize hv : a.eval c = v at this
  cases this with
  | tf h1 h2 => exact wp_cond_split hv (fun h => ht (h1 h) μ a w hr) (fun h => hf (h2 h) μ a w hr)

/-- what is still looked at -/
def keepT (t : List (Nat × AV)) : List Nat → List (Nat × AV)
  | [] => []
  | s :: L => match look t s with
    | some x => (s, x) :: keepT t L
    | none => keepT t L
def St.keep (σ : St) (L : List Nat) : St := ⟨keepT σ.t L, σ.h⟩

theorem keepT_look (t : List (Nat × AV)) : ∀ (L : List Nat) (s : Nat) (x : AV), look (keepT t L) s = some x → look t s = some x
  | [], s, x, h => by simp [keepT, look] at h
  | q :: L, s, x, h => by
    simp only [keepT] at h
    split at h
    · rename_i y hy
      simp only [look] at h
      split at h
      · rename_i hs; subst hs; injection h with h; subst h; exact hy
      · exact keepT_look t L s x h
    · exact keepT_look t L s x h

theorem RRs.keep {cx : Cx} {σ : St} {μ : Mu} {a : Act} {w : World} (h : RRs cx σ μ a w) (L : List Nat) : RRs cx (σ.keep L) μ a w :=
  ⟨h.rr.forget (fun s x hx => keepT_look σ.t L s x hx), h.mu, h.bor, h.kle⟩

theorem W_region {cx : Cx} {id : Nat} {l : List Oper} {σ : St} {Q : Exit → St → Prop} (L : List Nat) (h : opsV cx.P cx.n (l.map (·.dst)) l σ fun σ' => Q .normal (σ'.keep L)) : W cx (.region id l.toArray false) σ Q :=
  fun μ a w hr => wp_region_list (opsV_sound _ σ _ μ a w (by simpa using h) hr fun _ μ' _ _ h1 h2 => ⟨_, μ', h1, h2.keep L⟩)

theorem W_draw {cx : Cx} {id : Nat} {l : List Oper} {σ : St} {Q : Exit → St → Prop} (L : List Nat) (hm : cx.P.follows .mixedOrders = true)
    (h : opsD cx.P cx.n (l.map (·.dst)) l σ [] fun feet σ' => chkR l.toArray feet = true ∧ Q .normal (σ'.keep L)) : W cx (.region id l.toArray true) σ Q :=
  fun μ a w hr => region_draw (K := fun σ' => Q .normal (σ'.keep L)) hm (by simpa using h) hr fun _ μ' _ _ h1 h2 => ⟨_, μ', h1, h2.keep L⟩

/-! ### a state seen as a poorer one, its objects under other numbers -/
theorem Rep.unren {w : World} {S : Nat → Prop} {μ : Mu} {ρ : Nat → Nat} {y : AV} {v : Value} (h : Rep w S μ y v) : ∀ x : AV, y = x.ren ρ → Rep w S (fun i => μ (ρ i)) x v := by
  induction h with
  | d h => intro x hx; cases x <;> simp [AV.ren] at hx; subst hx; exact .d h
  | ptr h => intro x hx; cases x <;> simp [AV.ren] at hx; obtain ⟨rfl, rfl⟩ := hx; exact .ptr h
  | ep h => intro x hx; cases x <;> simp [AV.ren] at hx; obtain ⟨rfl, rfl, rfl, rfl⟩ := hx; exact .ep h
  | dp f a b c => intro x hx; cases x <;> simp [AV.ren] at hx; subst hx; exact .dp f a b c
  | rowNil h => intro x hx; cases x <;> simp [AV.ren] at hx; obtain ⟨rfl, rfl, rfl, rfl⟩ := hx; exact .rowNil h
  | row h1 h2 h3 h4 h5 => intro x hx; cases x <;> simp [AV.ren] at hx; obtain ⟨rfl, rfl, rfl, rfl⟩ := hx; exact .row h1 h2 h3 h4 h5
  | subNil => intro x hx; cases x <;> simp [AV.ren] at hx; obtain ⟨rfl, rfl, rfl, rfl⟩ := hx; exact .subNil
  | sub h1 h2 h3 => intro x hx; cases x <;> simp [AV.ren] at hx; obtain ⟨rfl, rfl, rfl, rfl⟩ := hx; exact .sub h1 h2 h3
  | rowc h1 h2 h3 h4 h5 => intro x hx; cases x <;> simp [AV.ren] at hx; obtain ⟨rfl, rfl, rfl, rfl⟩ := hx; exact .rowc h1 h2 h3 h4 h5
  | nil => intro x hx; cases x <;> simp [AV.ren] at hx; exact .nil
  | nilp => intro x hx; cases x <;> simp [AV.ren] at hx; exact .nilp
  | ifc _ ih => intro x hx; cases x <;> simp [AV.ren] at hx; obtain ⟨rfl, rfl⟩ := hx; exact .ifc (ih _ rfl)
  | mp h => intro x hx; cases x <;> simp [AV.ren] at hx; subst hx; exact .mp h
  | fn h1 _ ih =>
    intro x hx; cases x <;> simp [AV.ren] at hx
    obtain ⟨rfl, rfl⟩ := hx
    rw [renL_map] at h1 ih
    exact .fn (by simpa using h1) (fun j x v hx hv => ih j (x.ren ρ) v (by simp [hx]) hv x rfl)
  | agg h1 _ h3 ih =>
    intro x hx; cases x <;> simp [AV.ren] at hx
    subst hx
    rw [renL_map] at h1 ih
    exact .agg (by simpa using h1) (fun j x v hx hv => ih j (x.ren ρ) v (by simp [hx]) hv x rfl) h3
  | tup h1 _ ih =>
    intro x hx; cases x <;> simp [AV.ren] at hx
    subst hx
    rw [renL_map] at h1 ih
    exact .tup (by simpa using h1) (fun j x v hx hv => ih j (x.ren ρ) v (by simp [hx]) hv x rfl)
  | tf h1 h2 => intro x hx; cases x <;> simp [AV.ren] at hx; exact .tf (fun hb => hx.1.1 (h1 hb)) (fun hb => hx.2.1 (h2 hb))
  | any => intro x hx; cases x <;> simp [AV.ren] at hx; exact .any

theorem ObRep.unren {w : World} {S : Nat → Prop} {μ : Mu} {ρ : Nat → Nat} {i : Nat} {o : Ob} (h : ObRep w S μ (ρ i) (o.ren ρ)) : ObRep w S (fun i => μ (ρ i)) i o := by
  cases o with
  | box t cs =>
    simp only [Ob.ren] at h
    cases h with
    | box h1 h2 h3 h4 h5 =>
      rw [renL_map] at h3 h4
      exact .box h1 h2 (by simpa using h3) (fun j x v hx hv => (h4 j (x.ren ρ) v (by simp [hx]) hv).unren x rfl) h5
  | rows t sz rs =>
    simp only [Ob.ren] at h
    cases h with
    | rowsNil h1 h2 => exact .rowsNil h1 h2
    | rows h1 h2 h3 h4 h5 h6 => exact .rows h1 h2 h3 h4 h5 h6

def subT (ρ : Nat → Nat) (t : List (Nat × AV)) : List (Nat × AV) → Prop
  | [] => True
  | (s, x) :: l => look t s = some (x.ren ρ) ∧ subT ρ t l
def subH (ρ : Nat → Nat) (h : List (Option Ob)) : List (Option Ob) → List Nat → Prop
  | [], [] => True
  | none :: g, _ :: L => subH ρ h g L
  | some o :: g, i :: L => (h[i]?).join = some (o.ren ρ) ∧ subH ρ h g L
  | _, _ => False
def rho (L : List Nat) (n : Nat) (i : Nat) : Nat := match L[i]? with
  | some j => j
  | none => n + i
def fixes : Nat → List Nat → Nat → Bool
  | 0, _, _ => true
  | k + 1, x :: L, i => (x == i) && fixes k L (i + 1)
  | _ + 1, [], _ => false

/-- σ' is σ with less remembered; its objects are those of σ at the numbers L -/
def Sub (k : Nat) (L : List Nat) (σ' σ : St) : Prop :=
  subT (rho L σ.h.length) σ.t σ'.t ∧ subH (rho L σ.h.length) σ.h σ'.h L ∧ distinct L = true ∧ L.all (fun i => decide (i < σ.h.length)) = true ∧ fixes k L 0 = true

theorem subT_look {ρ : Nat → Nat} {t : List (Nat × AV)} : ∀ {l : List (Nat × AV)}, subT ρ t l → ∀ s x, look l s = some x → look t s = some (x.ren ρ)
  | [], _, s, x, h => by simp [look] at h
  | (q, y) :: l, hs, s, x, h => by
    simp only [look] at h
    split at h
    · rename_i e; subst e; injection h with h; subst h; exact hs.1
    · exact subT_look hs.2 s x h

theorem subH_len {ρ : Nat → Nat} {h : List (Option Ob)} : ∀ {g : List (Option Ob)} {L : List Nat}, subH ρ h g L → g.length = L.length
  | [], [], _ => rfl
  | [], _ :: _, hs => by exact hs.elim
  | _ :: _, [], hs => by cases ‹Option Ob› <;> exact hs.elim
  | none :: g, _ :: L, hs => by simp [subH_len (g := g) hs]
  | some o :: g, i :: L, hs => by simp [subH_len (g := g) hs.2]
theorem subH_get {ρ : Nat → Nat} {h : List (Option Ob)} : ∀ {g : List (Option Ob)} {L : List Nat}, subH ρ h g L → ∀ (i : Nat) (o : Ob), (g[i]?).join = some o → ∃ j, L[i]? = some j ∧ (h[j]?).join = some (o.ren ρ)
  | [], [], _, i, o, hi => by simp at hi
  | [], _ :: _, hs, _, _, _ => by exact hs.elim
  | _ :: _, [], hs, _, _, _ => by cases ‹Option Ob› <;> exact hs.elim
  | none :: g, q :: L, hs, i, o, hi => by
    cases i with
    | zero => simp at hi
    | succ i => simpa using subH_get (g := g) hs i o (by simpa using hi)
  | some o' :: g, q :: L, hs, i, o, hi => by
    cases i with
    | zero => simp at hi; subst hi; exact ⟨q, rfl, hs.1⟩
    | succ i => simpa using subH_get (g := g) hs.2 i o (by simpa using hi)

theorem fixes_get : ∀ {k : Nat} {L : List Nat} {i : Nat}, fixes k L i = true → ∀ j, j < k → L[j]? = some (i + j)
  | 0, _, _, _, j, hj => by omega
  | k + 1, [], _, h, _, _ => by simp [fixes] at h
  | k + 1, x :: L, i, h, j, hj => by
    simp only [fixes, Bool.and_eq_true, beq_iff_eq] at h
    cases j with
    | zero => simp [h.1]
    | succ j => have := fixes_get h.2 j (by omega); simp [this]; omega

theorem RRs.sub {cx : Cx} {σ σ' : St} {μ : Mu} {a : Act} {w : World} {L : List Nat} (h : RRs cx σ μ a w) (hs : Sub cx.k L σ' σ) : RRs cx σ' (fun i => μ (rho L σ.h.length i)) a w := by
  obtain ⟨hT, hH, hd, hlt, hf⟩ := hs
  have hlen := subH_len hH
  have live : ∀ i, σ'.H i ≠ none → ∃ j, L[i]? = some j ∧ rho L σ.h.length i = j ∧ σ.H j ≠ none := by
    intro i hi
    obtain ⟨o, ho⟩ := Option.ne_none_iff_exists'.1 hi
    obtain ⟨j, h1, h2⟩ := subH_get hH i o ho
    exact ⟨j, h1, by simp [rho, h1], by unfold St.H; rw [h2]; simp⟩
  have hS : ∀ b, cx.Sta σ.H μ w b → cx.Sta σ'.H (fun i => μ (rho L σ.h.length i)) w b := by
    intro b hb
    rcases hb with hv | ⟨h1, h2, h3, h4⟩
    · exact .inl hv
    · refine .inr ⟨h1, h2, h3, fun i hi he => ?_⟩
      obtain ⟨j, _, e, hj⟩ := live i hi
      simp only [e] at he
      exact h4 j hj he
  have ev0 := Ev.refl w (fun _ => False)
  refine ⟨⟨h.rr.n, h.rr.dfr, fun s x hx => ?_, fun i o ho => ?_, fun i b hi hb => ?_, fun i j b hi hj hbi hbj => ?_, h.rr.fr, h.rr.vlt, h.rr.blt⟩, fun i hi => ?_, fun i hi => ?_, ?_⟩
  · obtain ⟨v, h1, h2⟩ := h.rr.tm s _ (subT_look hT s x hx)
    exact ⟨v, h1, (h2.unren x rfl).evolve ev0 (fun _ h => h.elim) hS (fun _ _ h => h)⟩
  · obtain ⟨j, h1, h2⟩ := subH_get hH i o ho
    have e : rho L σ.h.length i = j := by simp [rho, h1]
    have h3 := h.rr.ob j _ h2
    rw [← e] at h3
    exact (ObRep.unren h3).evolve ev0 (fun _ h => h.elim) hS (fun _ _ h => h) (fun _ _ h => h)
  · obtain ⟨j, _, e, hj⟩ := live i hi
    simp only [e] at hb
    exact h.rr.own j b hj hb
  · obtain ⟨p, p1, e1, hp⟩ := live i hi
    obtain ⟨q, q1, e2, hq⟩ := live j hj
    simp only [e1] at hbi
    simp only [e2] at hbj
    obtain rfl := h.rr.inj p q b hp hq hbi hbj
    exact distinct_inj hd i j p p1 q1
  · have : L[i]? = none := List.getElem?_eq_none (by omega)
    simp only [rho, this]
    exact h.mu _ (by omega)
  · have := fixes_get hf i hi
    simp only [Nat.zero_add] at this
    simp only [rho, this]
    exact h.bor i hi
  · rw [hlen]
    rcases Nat.lt_or_ge L.length cx.k with hl | hl
    · have := fixes_get hf L.length hl
      simp at this
    · exact hl

theorem W_sub {cx : Cx} {c : Code} {σ σ' : St} {Q : Exit → St → Prop} (L : List Nat) (hs : Sub cx.k L σ' σ) (h : W cx c σ' Q) : W cx c σ Q :=
  fun _ a w hr => h _ a w (hr.sub hs)

/-- a loop: st x: the state at the head, of which p x is known; m x goes down -/
theorem W_loop {cx : Cx} {c : Code} {σ : St} {Q : Exit → St → Prop} {X : Type} (st : X → St) (p : X → Prop) (m : X → Nat) (x0 : X) (hp : p x0) (L0 : List Nat) (hs : Sub cx.k L0 (st x0) σ)
    (round : ∀ x, p x → W cx c (st x) (thenQ (fun σ' => ∃ x' L, p x' ∧ m x' < m x ∧ Sub cx.k L (st x') σ') Q)) : W cx (.loop c) σ Q := by
  intro μ a w hr
  refine wp_loop_ghost (fun n a w => ∃ x μ, p x ∧ m x = n ∧ RRs cx (st x) μ a w) (m x0) ⟨x0, _, hp, rfl, hr.sub hs⟩ ?_
  rintro n a w ⟨x, μ, hpx, rfl, hrx⟩
  refine wp_mono (round x hpx μ a w hrx) ?_
  rintro e a' w' ⟨σ', μ', h1, h2⟩
  cases e with
  | normal =>
    obtain ⟨x', L, hp', hm', hs'⟩ := h1
    exact ⟨m x', hm', x', _, hp', rfl, h2.sub hs'⟩
  | _ => exact ⟨σ', μ', h1, h2⟩

/-- an empty slice becomes an object of its own -/
theorem W_adopt {cx : Cx} {c : Code} {σ : St} {Q : Exit → St → Prop} (s : Nat) (t : TypeId) (sz : Nat) (hsz : 0 < sz) (hs : look σ.t s = some .nil) (h : W cx c ⟨(s, .row σ.h.length sz 0 0) :: σ.t, σ.h ++ [some (.rows t sz [])]⟩ Q) : W cx c σ Q := by
  intro μ a w hr
  have hn : μ σ.h.length = none := hr.mu _ (Nat.le_refl _)
  have key := hr.rr.regrow hn (.rows t sz []) (.row σ.h.length sz 0 0) [] [] (nb := none) (.inl rfl) (Ev.refl w (fun _ => False)) (fun _ h => h.elim) (fun _ h => by cases h) (fun S' _ => .rowsNil (by simp [setMu]) hsz)
  obtain ⟨v, h1, h2⟩ := hr.rr.tm s _ hs
  cases h2
  refine h (setMu μ σ.h.length none) a w ⟨?_, fun i hi => ?_, fun i hi => ?_, by simp; have := hr.kle; omega⟩
  · have e1 : St.H ⟨(s, .row σ.h.length sz 0 0) :: σ.t, σ.h ++ [some (.rows t sz [])]⟩ = appH σ.h.length ⟨.row σ.h.length sz 0 0, [.rows t sz []], [], []⟩ σ.H := St.app_H σ (some s) ⟨.row σ.h.length sz 0 0, [.rows t sz []], [], []⟩ rfl
    rw [e1]
    refine ⟨key.n, key.dfr, fun q x hx => ?_, key.ob, key.own, key.inj, key.fr, key.vlt, key.blt⟩
    simp only [St.T, look] at hx
    split at hx
    · rename_i e; subst e; injection hx with hx; subst hx
      exact ⟨_, h1, .rowNil (by simp [setMu])⟩
    · exact key.tm q x hx
  · simp at hi
    have : i ≠ σ.h.length := by omega
    simp [setMu, this]; exact hr.mu i (by omega)
  · have : i ≠ σ.h.length := by have := hr.kle; omega
    simp [setMu, this]; exact hr.bor i hi

/-! ### whole functions -/
def flatD : D → Prop
  | .sl rows => rows = []
  | _ => True
mutual
def flatA : AV → Prop
  | .d x => flatD x
  | .dp _ => False
  | .fn _ cs => flatL cs
  | .agg cs => flatL cs
  | .tup cs => flatL cs
  | .ifc _ x => flatA x
  | _ => True
def flatL : List AV → Prop
  | [] => True
  | x :: l => flatA x ∧ flatL l
end
def flatO : Ob → Prop
  | .box _ cs => flatL cs
  | .rows _ _ rs => ∀ r ∈ rs, ∀ x ∈ r, flatD x
def flatOs : List Ob → Prop
  | [] => True
  | o :: l => flatO o ∧ flatOs l

theorem flatL_mem : ∀ {l : List AV}, flatL l → ∀ x ∈ l, flatA x
  | [], _, x, h => by cases h
  | y :: l, hf, x, h => by
    rcases List.mem_cons.1 h with rfl | h
    · exact hf.1
    · exact flatL_mem hf.2 x h
theorem flatOs_mem : ∀ {l : List Ob}, flatOs l → ∀ x ∈ l, flatO x
  | [], _, x, h => by cases h
  | y :: l, hf, x, h => by
    rcases List.mem_cons.1 h with rfl | h
    · exact hf.1
    · exact flatOs_mem hf.2 x h
theorem RepD.flat {w : World} {S S' : Nat → Prop} {x : D} {v : Value} (h : RepD w S x v) (hf : flatD x) : RepD w S' x v := by
  cases h with
  | int => exact .int
  | bool => exact .bool
  | nil => exact .nil
  | sl f _ _ _ _ _ => simp only [flatD] at hf; subst hf; exact .nil
theorem Rep.flat {w : World} {S S' : Nat → Prop} {μ : Mu} {x : AV} {v : Value} (h : Rep w S μ x v) (hf : flatA x) : Rep w S' μ x v := by
  induction h with
  | d h => exact .d (h.flat hf)
  | ptr h => exact .ptr h
  | ep h => exact .ep h
  | dp f a b c => exact hf.elim
  | rowNil h => exact .rowNil h
  | row h1 h2 h3 h4 h5 => exact .row h1 h2 h3 h4 h5
  | subNil => exact .subNil
  | sub h1 h2 h3 => exact .sub h1 h2 h3
  | rowc h1 h2 h3 h4 h5 => exact .rowc h1 h2 h3 h4 h5
  | nil => exact .nil
  | nilp => exact .nilp
  | ifc _ ih => exact .ifc (ih hf)
  | mp h => exact .mp h
  | fn h1 _ ih => exact .fn h1 (fun j x v hx hv => ih j x v hx hv (flatL_mem hf x (List.mem_of_getElem? hx)))
  | agg h1 _ h3 ih => exact .agg h1 (fun j x v hx hv => ih j x v hx hv (flatL_mem hf x (List.mem_of_getElem? hx))) h3
  | tup h1 _ ih => exact .tup h1 (fun j x v hx hv => ih j x v hx hv (flatL_mem hf x (List.mem_of_getElem? hx)))
  | tf h1 h2 => exact .tf h1 h2
  | any => exact .any
theorem ObRep.flat {w : World} {S S' : Nat → Prop} {μ : Mu} {i : Nat} {o : Ob} (h : ObRep w S μ i o) (hf : flatO o) : ObRep w S' μ i o := by
  cases h with
  | box h1 h2 h3 h4 h5 => exact .box h1 h2 h3 (fun j x v hx hv => (h4 j x v hx hv).flat (flatL_mem hf x (List.mem_of_getElem? hx))) h5
  | rowsNil h1 h2 => exact .rowsNil h1 h2
  | rows h1 h2 h3 h4 h5 h6 => exact .rows h1 h2 h3 h4 h5 (fun k j r x v hr hx hv => (h6 k j r x v hr hx hv).flat (hf r (List.mem_of_getElem? hr) x (List.mem_of_getElem? hx)))

/-- the values that a function hands back -/
def retV (P : Program) (σ : St) : List ResultVar → (List AV → Prop) → Prop
  | [], K => K []
  | .tmp t :: l, K => withO (look σ.t t) fun x => retV P σ l fun xs => K (x :: xs)
  | .cell a t :: l, K => withO (look σ.t a) fun p => atV σ.H p fun ys _ => ldV P t ys fun x => retV P σ l fun xs => K (x :: xs)

def resOf (tmps : Array Value) : ResultVar → Sem Value
  | .tmp t => pure (tmps.getD t undef)
  | .cell b t => do loadVar t (← asAddr (tmps.getD b undef))
theorem results_eq (fn : Func) (tmps : Array Value) : results fn tmps = (do let vs ← fn.results.mapM (resOf tmps); pure (if h : vs.size = 1 then vs[0] else .tuple vs)) := by
  unfold results
  congr 1

theorem retV_run {cx : Cx} {σ : St} {μ : Mu} {a : Act} {w : World} (hr : RRs cx σ μ a w) : ∀ (l : List ResultVar) (K : List AV → Prop), retV cx.P σ l K → ∃ xs vs, K xs ∧ vs.length = xs.length ∧ xs.length = l.length ∧
    (l.mapM (resOf a.tmps)).run cx.P w = .ok vs w ∧ ∀ (j : Nat) (x : AV) (v : Value), xs[j]? = some x → vs[j]? = some v → Rep w (cx.Sta σ.H μ w) μ x v
  | [], K, h => ⟨[], [], h, rfl, rfl, rfl, by simp⟩
  | .tmp t :: l, K, h => by
    obtain ⟨x, hx, h⟩ := h
    obtain ⟨xs, vs, hK, h1, h2, h3, h4⟩ := retV_run hr l _ h
    obtain ⟨v, h5, h6⟩ := hr.rr.tm t x hx
    refine ⟨x :: xs, v :: vs, hK, by simp [h1], by simp [h2], ?_, fun j y u hy hu => ?_⟩
    · have e : a.tmps.getD t undef = v := by simp [h5]
      simp only [List.mapM_cons, resOf, Sem.run_bind, Sem.run_pure, Result.andThen_ok, h3, e]
    · cases j with
      | zero => simp at hy hu; subst hy hu; exact h6
      | succ j => simp at hy hu; exact h4 j y u hy hu
  | .cell b t :: l, K, h => by
    obtain ⟨p, hp, h⟩ := h
    obtain ⟨ys, rd, h, hrange⟩ := atV_range h
    obtain ⟨v, h5, h6⟩ := hr.rr.tm b p hp
    obtain ⟨bl, off, rfl, hR⟩ := hrange cx σ.H σ.T μ a w v hr.rr h6 (fun _ _ => rfl)
    obtain ⟨x, u, hx, hrun, hrep⟩ := run_load hR h
    obtain ⟨xs, vs, hK, h1, h2, h3, h4⟩ := retV_run hr l _ hx
    refine ⟨x :: xs, u :: vs, hK, by simp [h1], by simp [h2], ?_, fun j y u' hy hu => ?_⟩
    · have e : a.tmps.getD b undef = .pointer (some ⟨bl, off, none⟩) := by simp [h5]
      have hrun' : (loadVar t ⟨bl, off, none⟩).run cx.P w = .ok u w := by simpa [Instr.loadAt, Instr.sureAddr] using hrun
      simp only [List.mapM_cons, resOf, Sem.run_bind, Sem.run_pure, Result.andThen_ok, e, asAddr, hrun', h3]
    · cases j with
      | zero => simp at hy hu; subst hy hu; exact hrep
      | succ j => simp at hy hu; exact h4 j y u' hy hu

def packA : List AV → AV
  | [x] => x
  | xs => .tup xs

/-- the objects that are left: those lent and given up are not -/
def liveO (dead : List Nat) (nin : Nat) : Nat → List Ob → List (Option Ob)
  | _, [] => []
  | k, o :: l => (if (dead.contains k && decide (k < nin)) = true then none else some o) :: liveO dead nin (k + 1) l
theorem liveO_len {dead : List Nat} {nin : Nat} : ∀ (l : List Ob) (k : Nat), (liveO dead nin k l).length = l.length
  | [], _ => rfl
  | _ :: l, k => by simp [liveO, liveO_len l (k + 1)]
theorem liveO_get {dead : List Nat} {nin : Nat} : ∀ (l : List Ob) (k i : Nat) (o : Ob), l[i]? = some o → (nin ≤ k + i ∨ k + i ∉ dead) → ((liveO dead nin k l)[i]?).join = some o
  | [], _, i, _, h, _ => by simp at h
  | x :: l, k, i, o, h, hd => by
    cases i with
    | zero =>
      simp at h; subst h
      have : (dead.contains k && decide (k < nin)) = false := by
        rcases hd with h1 | h1
        · simp; intro _; omega
        · simp; intro h2; exact absurd h2 (by simpa using h1)
      simp only [liveO, this, List.getElem?_cons_zero]; rfl
    | succ i =>
      simp at h
      simp only [liveO, List.getElem?_cons_succ]
      exact liveO_get l (k + 1) i o h (by rw [show k + 1 + i = k + (i + 1) by omega]; exact hd)

/-- what must hold where a function ends -/
def endV (P : Program) (rs : List ResultVar) (al : Bool) (dead : List Nat) (nin : Nat) (res : AV) (outs : List Ob) (σ : St) : Prop :=
  retV P σ rs fun xs => ∃ L, packA xs = res.ren (rho L σ.h.length) ∧ subH (rho L σ.h.length) σ.h (liveO dead nin 0 outs) L ∧ distinct L = true ∧ L.all (fun i => decide (i < σ.h.length)) = true ∧ fixes nin L 0 = true ∧ (al = false → flatA res ∧ flatOs outs)

def endQ (P : Program) (rs : List ResultVar) (al : Bool) (dead : List Nat) (nin : Nat) (res : AV) (outs : List Ob) : Exit → St → Prop
  | .normal, σ => endV P rs al dead nin res outs σ
  | .ret, σ => endV P rs al dead nin res outs σ
  | _, _ => False

def argT : List AV → Nat → List (Nat × AV)
  | [], _ => []
  | x :: l, i => (i, x) :: argT l (i + 1)
theorem argT_look : ∀ (l : List AV) (i s : Nat) (x : AV), look (argT l i) s = some x → i ≤ s ∧ l[s - i]? = some x
  | [], i, s, x, h => by simp [argT, look] at h
  | y :: l, i, s, x, h => by
    simp only [argT, look] at h
    split at h
    · rename_i e; subst e; injection h with h; subst h; simp
    · obtain ⟨h1, h2⟩ := argT_look l (i + 1) s x h
      refine ⟨by omega, ?_⟩
      have : s - i = (s - (i + 1)) + 1 := by omega
      rw [this]; simpa using h2

theorem fn_ok {P : Program} {f : FuncId} {fn : Func} {c : Code} (s : Spec) (hf : P.funcs[f]? = some fn) (hb : fn.body = some c) (hname : (fn.name == "runtime.NumGoroutine") = false)
    (h : ∀ args ins res outs, s.rel args ins res outs → args.length ≤ fn.ntmps ∧ ∀ (w0 : World) (V Bo : Nat → Prop) (mu0 : Mu), W ⟨P, w0, V, Bo, fn.ntmps, ins.length, mu0⟩ c ⟨argT args 0, ins.map some⟩ (endQ P fn.results.toList s.al s.dead ins.length res outs)) : Ok P f s := by
  refine ⟨⟨fn, hf, by simp [hb], hname⟩, ?_⟩
  intro args ins res outs hrel w V Bo μ vals hin
  obtain ⟨hn, h⟩ := h args ins res outs hrel
  refine calls_of_wp hf hb ?_
  have hsz : vals.size ≤ fn.ntmps := by rw [hin.n]; exact hn
  have hH : St.H ⟨argT args 0, ins.map some⟩ = fun i => ins[i]? := by
    funext i; simp only [St.H, List.getElem?_map]; cases ins[i]? <;> rfl
  have hSta : ∀ b, V b → (Cx.Sta ⟨P, w, V, Bo, fn.ntmps, ins.length, μ⟩ (fun i => ins[i]?) μ w) b := fun b hb => .inl hb
  have ev0 := Ev.refl w (fun _ => False)
  have hr0 : RRs ⟨P, w, V, Bo, fn.ntmps, ins.length, μ⟩ ⟨argT args 0, ins.map some⟩ μ { tmps := vals ++ Array.replicate (fn.ntmps - vals.size) undef, defers := [] } w := by
    refine ⟨⟨by simp; omega, rfl, fun q x hx => ?_, fun i o ho => ?_, fun i b hi hb => ?_, fun i j b hi hj => ?_, Ev.refl w _, hin.vlt, fun b hb => ?_⟩, fun i hi => ?_, fun _ _ => rfl, by simp⟩
    · obtain ⟨_, h2⟩ := argT_look args 0 q x hx
      simp only [Nat.sub_zero] at h2
      have hq : q < vals.size := by rw [hin.n]; exact (List.getElem?_eq_some_iff.1 h2).1
      refine ⟨vals[q], by simp [Array.getElem?_append_left hq, hq], ?_⟩
      rw [hH]
      exact (hin.rep q x vals[q] h2 (by simp [hq])).evolve ev0 (fun _ h => h.elim) hSta (fun _ _ h => h)
    · rw [hH] at ho ⊢
      exact (hin.ob i o ho).evolve ev0 (fun _ h => h.elim) hSta (fun _ _ h => h) (fun _ _ h => h)
    · rw [hH] at hi
      have hlt : i < ins.length := by
        rcases Nat.lt_or_ge i ins.length with h | h
        · exact h
        · simp [List.getElem?_eq_none h] at hi
      obtain ⟨o, ho⟩ := Option.ne_none_iff_exists'.1 hi
      refine ⟨.inr (hin.bo i b hlt hb), ?_⟩
      have := hin.ob i o ho
      cases this with
      | box h1 h2 => rw [hb] at h1; injection h1 with h1; injection h1 with h1; subst h1; exact heap_lt h2
      | rowsNil h1 => rw [hb] at h1; cases h1
      | rows h1 h2 => rw [hb] at h1; injection h1 with h1; injection h1 with h1; subst h1; exact heap_lt h2
    · rw [hH] at hi hj
      have lt : ∀ i : Nat, ins[i]? ≠ none → i < ins.length := fun i h => by
        rcases Nat.lt_or_ge i ins.length with h' | h'
        · exact h'
        · exact absurd (List.getElem?_eq_none h') h
      exact hin.inj i j b (lt i hi) (lt j hj)
    · obtain ⟨i, hi, hb'⟩ := hin.bo' b hb
      have := hin.ob i ins[i] (List.getElem?_eq_getElem hi)
      generalize ins[i] = o at this
      cases this with
      | box h1 h2 => rw [hb'] at h1; injection h1 with h1; injection h1 with h1; subst h1; exact heap_lt h2
      | rowsNil h1 => rw [hb'] at h1; cases h1
      | rows h1 h2 => rw [hb'] at h1; injection h1 with h1; injection h1 with h1; subst h1; exact heap_lt h2
    · exact hin.lt i (by simpa using hi)
  refine wp_mono (h w V Bo μ μ _ w hr0) ?_
  rintro e a' w' ⟨σ', μ', hq, hr⟩
  have fin : endV P fn.results.toList s.al s.dead ins.length res outs σ' → a'.defers = [] ∧ ∃ v, (results fn a'.tmps).run P w' = .ok v w' ∧ ∃ v' μ'', Ending.returned v = .returned v' ∧ Out P s.al s.dead V Bo μ w ins.length res outs v' w' μ'' := by
    intro hend
    obtain ⟨xs, vs, ⟨L, hpack, hsub, hdist, hall, hfix, hflat⟩, l1, l2, hrun, hrep⟩ := retV_run hr _ _ hend
    refine ⟨hr.rr.dfr, ?_⟩
    let v : Value := if h : vs.length = 1 then vs[0] else .tuple vs.toArray
    have hres : (results fn a'.tmps).run P w' = .ok v w' := by
      rw [results_eq, Array.mapM_eq_mapM_toList]
      simp only [Sem.run_bind]
      have : ∀ (m : Sem (List Value)), m.run P w' = .ok vs w' → ((Functor.map List.toArray m : Sem (Array Value)).run P w') = .ok vs.toArray w' := by
        intro m hm
        show (m >>= fun l => pure l.toArray).run P w' = _
        rw [Sem.run_bind, hm]; rfl
      rw [this _ hrun]
      simp only [Result.andThen_ok, Sem.run_pure, v, List.size_toArray]
      by_cases h1 : vs.length = 1
      · simp [h1]
      · simp [h1]
    have hrv : Rep w' (Cx.Sta ⟨P, w, V, Bo, fn.ntmps, ins.length, μ⟩ σ'.H μ' w') μ' (res.ren (rho L σ'.h.length)) v := by
      rw [← hpack]
      match xs, l1, hrep with
      | [], l1, hrep =>
        have e : vs = [] := List.eq_nil_of_length_eq_zero (by simpa using l1)
        subst e
        exact .tup rfl (by simp)
      | [x], l1, hrep =>
        obtain ⟨u, rfl⟩ : ∃ u, vs = [u] := List.length_eq_one_iff.1 (by simpa using l1)
        exact hrep 0 x u rfl rfl
      | x :: y :: xs, l1, hrep =>
        have h1 : ¬ vs.length = 1 := by rw [l1]; simp
        simp only [v, dif_neg h1, packA]
        exact .tup (by simp [l1]) (fun j x v hx hv => hrep j x v hx (by simpa using hv))
    have hlenL : outs.length = L.length := by have := subH_len hsub; rwa [liveO_len] at this
    have hout : ∀ (i : Nat) (o : Ob), outs[i]? = some o → (ins.length ≤ i ∨ i ∉ s.dead) → ∃ j, L[i]? = some j ∧ rho L σ'.h.length i = j ∧ σ'.H j = some (o.ren (rho L σ'.h.length)) := by
      intro i o ho hdi
      obtain ⟨j, h1, h2⟩ := subH_get hsub i o (liveO_get outs 0 i o ho (by rw [Nat.zero_add]; exact hdi))
      exact ⟨j, h1, by simp [rho, h1], h2⟩
    have hmu : ∀ i b, μ' (rho L σ'.h.length i) = some (some b) → i < outs.length := by
      intro i b hb
      rcases Nat.lt_or_ge i outs.length with h | h
      · exact h
      · have : L[i]? = none := List.getElem?_eq_none (by omega)
        simp only [rho, this] at hb
        rw [hr.mu _ (by omega)] at hb; cases hb
    have hSo : ∀ b, s.al = true → (Cx.Sta ⟨P, w, V, Bo, fn.ntmps, ins.length, μ⟩ σ'.H μ' w') b → outS s.al V w w' (fun i => μ' (rho L σ'.h.length i)) outs.length b := by
      intro b hal hb
      rcases hb with hv | ⟨h1, h2, h3, h4⟩
      · exact .inl ⟨hal, hv⟩
      · refine .inr ⟨h1, h2, fun i hi he => ?_⟩
        by_cases hdi : ins.length ≤ i ∨ i ∉ s.dead
        · obtain ⟨j, u1, u2, u3⟩ := hout i outs[i] (List.getElem?_eq_getElem hi) hdi
          simp only [u2] at he
          exact h4 j (by rw [u3]; simp) he
        · have hil : i < ins.length := by
            rcases Nat.lt_or_ge i ins.length with h' | h'
            · exact h'
            · exact absurd (.inl h') hdi
          have hfx := fixes_get hfix i hil
          simp only [Nat.zero_add] at hfx
          simp only [rho, hfx] at he
          have he : μ i = some (some b) := (hr.bor i hil).symm.trans he
          have hob := hin.ob i ins[i] (List.getElem?_eq_getElem hil)
          have hblt : b < w.heap.size := by
            generalize ins[i] = oo at hob
            cases hob with
            | box q1 q2 => rw [he] at q1; injection q1 with q1; injection q1 with q1; subst q1; exact heap_lt q2
            | rowsNil q1 => rw [he] at q1; cases q1
            | rows q1 q2 => rw [he] at q1; injection q1 with q1; injection q1 with q1; subst q1; exact heap_lt q2
          exact absurd hblt (Nat.not_lt.2 h1)
    have hle : ins.length ≤ outs.length := by
      rcases Nat.lt_or_ge outs.length ins.length with hl | hl
      · have := fixes_get hfix outs.length hl
        rw [hlenL] at this; simp at this
      · exact hl
    have ev1 := Ev.refl w' (fun _ => False)
    refine ⟨v, hres, v, fun i => μ' (rho L σ'.h.length i), rfl, hr.rr.fr, fun i x hx => ?_, ?_, fun i o ho hdi => ?_, fun i b hi hb => ?_, fun i j b hi hj hdi hdj hbi hbj => ?_, fun i hi => ?_, hle⟩
    · have hi : i < ins.length := by
        rcases Nat.lt_or_ge i ins.length with h | h
        · exact h
        · rw [hin.lt i h] at hx; cases hx
      have := fixes_get hfix i hi
      simp only [Nat.zero_add] at this
      simp only [rho, this]
      rw [hr.bor i hi]; exact hx
    · have h1 := hrv.unren (ρ := rho L σ'.h.length) res rfl
      by_cases hal : s.al = true
      · exact h1.evolve ev1 (fun _ h => h.elim) (fun b hb => hSo b hal hb) (fun _ _ h => h)
      · exact h1.flat (hflat (by simpa using hal)).1
    · obtain ⟨j, u1, u2, u3⟩ := hout i o ho hdi
      have h1 := hr.rr.ob j _ u3
      rw [← u2] at h1
      have h2 := ObRep.unren h1
      by_cases hal : s.al = true
      · exact h2.evolve ev1 (fun _ h => h.elim) (fun b hb => hSo b hal hb) (fun _ _ h => h) (fun _ _ h => h)
      · exact h2.flat (flatOs_mem (hflat (by simpa using hal)).2 o (List.mem_of_getElem? ho))
    · have hil := hmu i b hb
      obtain ⟨j, u1, u2, u3⟩ := hout i outs[i] (List.getElem?_eq_getElem hil) (.inl hi)
      simp only [u2] at hb
      have h1 := hr.rr.own j b (by rw [u3]; simp) hb
      refine ⟨?_, h1.2⟩
      rcases h1.1 with h2 | h2
      · exact .inl h2
      · obtain ⟨q, hq1, hq2⟩ := hin.bo' b h2
        by_cases hqd : q ∈ s.dead
        · exact .inr ⟨q, hq1, hqd, hq2⟩
        exfalso
        have hq3 : μ' q = some (some b) := by rw [hr.bor q hq1]; exact hq2
        have hq4 := fixes_get hfix q hq1
        simp only [Nat.zero_add] at hq4
        obtain ⟨j', v1, v2, v3⟩ := hout q outs[q] (List.getElem?_eq_getElem (by omega)) (.inr hqd)
        rw [hq4] at v1; injection v1 with v1; subst v1
        have hjq := hr.rr.inj j q b (by rw [u3]; simp) (by rw [v3]; simp) hb hq3
        rw [hjq] at u1
        have := distinct_inj hdist i q q u1 hq4
        omega
    · obtain ⟨p, u1, u2, u3⟩ := hout i outs[i] (List.getElem?_eq_getElem hi) hdi
      obtain ⟨q, v1, v2, v3⟩ := hout j outs[j] (List.getElem?_eq_getElem hj) hdj
      simp only [u2] at hbi
      simp only [v2] at hbj
      obtain rfl := hr.rr.inj p q b (by rw [u3]; simp) (by rw [v3]; simp) hbi hbj
      exact distinct_inj hdist i j p u1 v1
    · have : L[i]? = none := List.getElem?_eq_none (by omega)
      simp only [rho, this]
      exact hr.mu _ (by omega)
  cases e with
  | normal => exact fin hq
  | ret => exact fin hq
  | _ => exact hq.elim
end Go.Proofs.Ytniiaaagammebaa

/- Engine, part N: steps for the walk. -/
namespace Go.Proofs.Ytniiaaagammebaa
open Go.RowKit

/-- many cells alike (not to be unfolded) -/
def repA (n : Nat) (x : AV) : List AV := List.replicate n x

def lvl : List (Nat × List Nat) → Nat → List Nat
  | [], _ => []
  | (k, L) :: l, i => if i = k then L else lvl l i

theorem opV_mono {P : Program} {n : Nat} {σ : St} {o : Oper} {K K' : Eff → Prop} (hk : ∀ e, K e → K' e) (cx : Cx) (hP : cx.P = P) (hn : cx.n = n) (h : opV P n σ o K) : ∃ e, LocOp cx σ.h.length σ.T σ.H o e ∧ K' e := by
  subst hP hn
  obtain ⟨e, h1, h2⟩ := opV_sound h
  exact ⟨e, h1, hk e h2⟩

theorem ops_nil {P : Program} {n : Nat} {ds : List (Option Tmp)} {σ : St} {K : St → Prop} (h : K σ) : opsV P n ds [] σ K := h
theorem ops_cons {P : Program} {n : Nat} {ds : List (Option Tmp)} {o : Oper} {rest : List Oper} {σ : St} {K0 : St → Prop}
    (h : ∀ K : St → Prop, (∀ σ', opsV P n ds rest σ' K0 → K σ') → gdV ds σ o (opV P n σ o fun e => wrOk σ.h.length e.wr = true ∧ K (σ.app o.dst e)) (dstOk n o.dst ∧ K (σ.app o.dst skipE))) : opsV P n ds (o :: rest) σ K0 :=
  h _ fun _ h => h
theorem opsd_nil {P : Program} {n : Nat} {ds : List (Option Tmp)} {σ : St} {acc : List Foot} {K : List Foot → St → Prop} (h : K acc σ) : opsD P n ds [] σ acc K := h
theorem opsd_cons {P : Program} {n : Nat} {ds : List (Option Tmp)} {o : Oper} {rest : List Oper} {σ : St} {acc : List Foot} {K0 : List Foot → St → Prop}
    (h : ∀ K : List Foot → St → Prop, (∀ acc' σ', opsD P n ds rest σ' acc' K0 → K acc' σ') → gdV ds σ o (opV P n σ o fun e => wrOk σ.h.length e.wr = true ∧ K (acc ++ [footE σ.h.length e]) (σ.app o.dst e)) (dstOk n o.dst ∧ K (acc ++ [footE σ.h.length skipE]) (σ.app o.dst skipE))) : opsD P n ds (o :: rest) σ acc K0 :=
  h _ fun _ _ h => h

theorem W_reg {cx : Cx} {id : Nat} {l : List Oper} {σ : St} {Q : Exit → St → Prop} (lv : List (Nat × List Nat)) (h : opsV cx.P cx.n (l.map (·.dst)) l σ fun σ' => Q .normal (σ'.keep (lvl lv id))) : W cx (.region id l.toArray false) σ Q := W_region _ h
theorem W_drw {cx : Cx} {id : Nat} {l : List Oper} {σ : St} {Q : Exit → St → Prop} (lv : List (Nat × List Nat)) (hm : cx.P.follows .mixedOrders = true)
    (h : opsD cx.P cx.n (l.map (·.dst)) l σ [] fun feet σ' => chkR l.toArray feet = true ∧ Q .normal (σ'.keep (lvl lv id))) : W cx (.region id l.toArray true) σ Q := W_draw _ hm h
theorem retV_mono {P : Program} {σ : St} : ∀ {rs : List ResultVar} {K K' : List AV → Prop}, (∀ xs, K xs → K' xs) → retV P σ rs K → retV P σ rs K'
  | [], _, _, hk, h => hk _ h
  | .tmp t :: l, _, _, hk, ⟨x, hx, h⟩ => ⟨x, hx, retV_mono (fun xs hxs => hk _ hxs) h⟩
  | .cell a t :: l, K, K', hk, ⟨p, hp, h⟩ => ⟨p, hp, by
      have ld : ∀ (ys : List AV) (F G : AV → Prop), (∀ x, F x → G x) → ldV P t ys F → ldV P t ys G := by
        rintro ys F G hfg ⟨h1, h2⟩
        refine ⟨h1, ?_⟩
        split
        · rename_i hc; rw [if_pos hc] at h2; exact ⟨h2.1, hfg _ h2.2⟩
        · rename_i hc; rw [if_neg hc] at h2; obtain ⟨x, a, b⟩ := h2; exact ⟨x, a, hfg _ b⟩
      have at_ : ∀ (F G : List AV → List Nat → Prop), (∀ ys rd, F ys rd → G ys rd) → atV σ.H p F → atV σ.H p G := by
        intro F G hfg h
        unfold atV at h ⊢
        split
        · split
          · rename_i hob; simp only [hob] at h; exact hfg _ _ h
          · rename_i hob; revert h; split <;> simp_all
        · split
          · rename_i hob; simp only [hob] at h; obtain ⟨h1, r, h2, h3⟩ := h; exact ⟨h1, r, h2, hfg _ _ h3⟩
          · rename_i hob; revert h; split <;> simp_all
        · exact hfg _ _ h
        · simp_all
      exact at_ _ _ (fun ys rd hh => ld ys _ _ (fun x hx => retV_mono (fun xs hxs => hk _ hxs) hx) hh) h⟩

/-- the end of a function, its own objects at the numbers L -/
theorem end_at {P : Program} {rs : List ResultVar} {al : Bool} {dead : List Nat} {nin : Nat} {res : AV} {outs : List Ob} {σ : St} (L : List Nat)
    (h : retV P σ rs fun xs => packA xs = res.ren (rho L σ.h.length) ∧ subH (rho L σ.h.length) σ.h (liveO dead nin 0 outs) L ∧ distinct L = true ∧ L.all (fun i => decide (i < σ.h.length)) = true ∧ fixes nin L 0 = true ∧ (al = false → flatA res ∧ flatOs outs)) :
    endV P rs al dead nin res outs σ := retV_mono (fun _ hx => ⟨L, hx⟩) h
theorem end_at0 {P : Program} {rs : List ResultVar} {al : Bool} {dead : List Nat} {res : AV} {σ : St} (h : retV P σ rs fun xs => packA xs = res.ren (rho [] σ.h.length) ∧ (al = false → flatA res)) : endV P rs al dead 0 res [] σ :=
  end_at [] (retV_mono (fun _ hx => ⟨hx.1, trivial, rfl, rfl, rfl, fun ha => ⟨hx.2 ha, trivial⟩⟩) h)
theorem endQ_ret {P : Program} {rs : List ResultVar} {al : Bool} {dead : List Nat} {nin : Nat} {res : AV} {outs : List Ob} {σ : St} (h : endV P rs al dead nin res outs σ) : endQ P rs al dead nin res outs .ret σ := h
theorem endQ_normal {P : Program} {rs : List ResultVar} {al : Bool} {dead : List Nat} {nin : Nat} {res : AV} {outs : List Ob} {σ : St} (h : endV P rs al dead nin res outs σ) : endQ P rs al dead nin res outs .normal σ := h

theorem W_condT {cx : Cx} {c : Operand} {x y : Code} {σ : St} {Q : Exit → St → Prop} (hc : getT σ.T c = some (.d (.bool true))) (h : W cx x σ Q) : W cx (.cond c x y) σ Q := W_cond hc (fun _ => h) (fun h' => by cases h')
theorem W_condF {cx : Cx} {c : Operand} {x y : Code} {σ : St} {Q : Exit → St → Prop} (hc : getT σ.T c = some (.d (.bool false))) (h : W cx y σ Q) : W cx (.cond c x y) σ Q := W_cond hc (fun h' => by cases h') (fun _ => h)

theorem call_go {P : Program} {f : FuncId} {R : Spec → Prop} (s : Spec) (hok : Ok P f s) (h : R s) : ∃ s, Ok P f s ∧ R s := ⟨s, hok, h⟩

theorem take_map_len {α β : Type} (g : α → β) (l : List α) : (l.map g).take l.length = l.map g := List.take_of_length_le (by simp)
/-- an element of a list that is encoded row by row -/
theorem idx_map {α : Type} {enc : α → List D} {l : List α} {k : Nat} {K : List D → Prop} (h : k < l.length) (hk : K (enc l[k])) : ∃ r, (l.map enc)[k]? = some r ∧ K r :=
  ⟨_, by rw [List.getElem?_map, List.getElem?_eq_getElem h]; rfl, hk⟩

/-! ### contracts that were proved otherwise -/
def scalD : D → Bool
  | .sl _ => false
  | _ => true
def valD : D → Value
  | .int k n => .int k n
  | .bool b => .bool b
  | .sl _ => undef
theorem valD_rep {w : World} {S : Nat → Prop} {x : D} {v : Value} (hs : scalD x = true) (h : RepD w S x v) : v = valD x := by
  cases h <;> first | rfl | (simp [scalD] at hs)
theorem rep_valD {w : World} {S : Nat → Prop} {x : D} (hs : scalD x = true) : RepD w S x (valD x) := by
  cases x <;> first | exact .int | exact .bool | (simp [scalD] at hs)

/-- numbers in, a number out, the world as it was -/
theorem ok_scalar {P : Program} {f : FuncId} {s : Spec} (hfn : ∃ fn : Func, P.funcs[f]? = some fn ∧ fn.body.isSome = true ∧ (fn.name == "runtime.NumGoroutine") = false)
    (h : ∀ args ins res outs, s.rel args ins res outs → ∃ (xs : List D) (y : D), args = xs.map AV.d ∧ ins = [] ∧ outs = [] ∧ res = .d y ∧ xs.all scalD = true ∧ scalD y = true ∧ ∀ w, Calls P f (xs.map valD).toArray w fun e w' => e = .returned (valD y) ∧ w = w') : Ok P f s := by
  refine ⟨hfn, ?_⟩
  intro args ins res outs hrel w V Bo μ vals hin
  obtain ⟨xs, y, rfl, rfl, rfl, rfl, hx, hy, hc⟩ := h args ins res outs hrel
  have hv : vals = (xs.map valD).toArray := by
    apply Array.ext'
    apply List.ext_getElem?
    intro j
    have hn := hin.n
    simp only [List.length_map] at hn
    simp only [List.getElem?_map]
    by_cases hj : j < xs.length
    · have hjv : j < vals.size := by omega
      have hr := hin.rep j (.d xs[j]) vals[j] (by simp [hj]) (by simp [hjv])
      cases hr with
      | d hr =>
        have := valD_rep ((List.all_eq_true.1 hx) xs[j] (List.getElem_mem hj)) hr
        simp [hj, hjv, this]
    · have hjv : ¬ j < vals.size := by omega
      simp [hj, hjv]
  subst hv
  refine (hc w).mono ?_
  rintro e w' ⟨rfl, rfl⟩
  refine ⟨_, fun _ => none, rfl, Ev.refl w Bo, fun i x hx => ?_, .d (rep_valD hy), (by simp), (fun i b _ h => by cases h), (by simp), (fun _ _ => rfl), Nat.le_refl _⟩
  rw [hin.lt i (by simp)] at hx; cases hx

/-! ### numbers that fit (side conditions by omega) -/
theorem wrapU (k : IntKind) (n : Int) (hk : k.signed = false) (h0 : 0 ≤ n) (h1 : n < 2 ^ k.bits) : k.wrap n = n := by
  cases k <;> simp_all [IntKind.wrap, IntKind.bits, IntKind.signed] <;> omega
theorem wi64 (n : Int) (h : -9223372036854775808 ≤ n ∧ n ≤ 9223372036854775807) : IntKind.i64.wrap n = n := IntWalk.i64_in n h
theorem wu8 (n : Int) (h : 0 ≤ n ∧ n ≤ 255) : IntKind.u8.wrap n = n := wrapU .u8 n rfl h.1 (by simp [IntKind.bits]; omega)
theorem wu64 (n : Int) (h : 0 ≤ n ∧ n ≤ 18446744073709551615) : IntKind.u64.wrap n = n := wrapU .u64 n rfl h.1 (by simp [IntKind.bits]; omega)
theorem wu32 (n : Int) (h : 0 ≤ n ∧ n ≤ 4294967295) : IntKind.u32.wrap n = n := wrapU .u32 n rfl h.1 (by simp [IntKind.bits]; omega)
theorem fit_i64 {n : Int} {K : Int → Prop} (h : -9223372036854775808 ≤ n ∧ n ≤ 9223372036854775807) (hk : K n) : fitV .i64 n K := by unfold fitV; rw [wi64 n h]; exact hk
theorem fit_u8 {n : Int} {K : Int → Prop} (h : 0 ≤ n ∧ n ≤ 255) (hk : K n) : fitV .u8 n K := by unfold fitV; rw [wu8 n h]; exact hk
theorem fit_u64 {n : Int} {K : Int → Prop} (h : 0 ≤ n ∧ n ≤ 18446744073709551615) (hk : K n) : fitV .u64 n K := by unfold fitV; rw [wu64 n h]; exact hk
theorem fit_u32 {n : Int} {K : Int → Prop} (h : 0 ≤ n ∧ n ≤ 4294967295) (hk : K n) : fitV .u32 n K := by unfold fitV; rw [wu32 n h]; exact hk
theorem fit_any {k : IntKind} {n : Int} {K : Int → Prop} (hk : K (k.wrap n)) : fitV k n K := hk
theorem quo_nn {a b : Int} {K : Int → Prop} (h : 0 ≤ a) (hk : K (a / b)) : quoV a b K := by unfold quoV; rw [Int.tdiv_eq_ediv_of_nonneg h]; exact hk
theorem quo_any {a b : Int} {K : Int → Prop} (hk : K (a.tdiv b)) : quoV a b K := hk
theorem rem_nn {a b : Int} {K : Int → Prop} (h : 0 ≤ a) (hk : K (a % b)) : remV a b K := by unfold remV; rw [Int.tmod_eq_emod_of_nonneg h]; exact hk
theorem rem_any {a b : Int} {K : Int → Prop} (hk : K (a.tmod b)) : remV a b K := hk
theorem sh_in {k : IntKind} {b : Int} {K : Nat → Prop} (h : b.toNat ≤ k.bits) (hk : K b.toNat) : shV k b K := by unfold shV shN; rw [Nat.min_eq_left h]; exact hk
theorem sh_any {k : IntKind} {b : Int} {K : Nat → Prop} (hk : K (shN k b)) : shV k b K := hk

attribute [go_sem] take_map_len List.take_length Nat.le_refl Int.toNat_natCast List.length_map IntKind.signed IntKind.bits gdV opV snapV builtinV lendA lendAs insV AV.into intoL posJ rhoJ wrJ lendE liveO sl2V apI sl3V apZ capV cpK cpV clV lenA withO_some getT gets getP look avOf dstOk St.T St.H St.app wrH wrOk skipE footE resE AV.ren renL Ob.ren cellsA atV ldV stV faV iaV binV cmpV ncmpV eqP unV mmV lenV fieldV nilcV optI sliV mkV bsV apV srcV toD chunks fillA plOf buildV splice snap1 snapL snapA snapAs kindsOf thenQ blockQ keepT St.keep lvl retV packA argT List.map_cons List.map_nil List.length_cons List.length_nil List.getElem?_cons_zero List.getElem?_cons_succ List.getElem?_nil List.drop_zero List.drop_succ_cons List.drop_nil List.take_zero List.take_succ_cons List.take_nil List.nil_append List.cons_append List.append_nil List.set_cons_zero List.set_cons_succ List.mapM_cons List.mapM_nil List.toList_toArray Option.join_some Option.join_none Option.bind_some Option.bind_none Option.map_some Option.map_none Option.pure_def Option.bind_eq_bind Option.some.injEq Nat.zero_add Nat.add_zero true_and and_true Bool.true_and Bool.and_true if_true if_false Bool.not_true Bool.not_false exists_eq_left' exists_eq_left exists_eq_right exists_eq exists_eq' forall_const  implies_true true_implies false_implies Bool.false_eq_true List.append_assoc List.range' List.flatten_cons List.flatten_nil List.replicate_succ List.replicate_zero and_self Nat.add_eq not_true_eq_false not_false_eq_true decide_eq_true_eq decide_eq_false_iff_not flatA flatL flatD flatO flatOs rho subH subT distinct fixes List.all_cons List.all_nil List.contains_cons List.contains_nil Bool.or_false Bool.or_true Bool.false_or Bool.true_or Sub List.getD_cons_zero
end Go.Proofs.Ytniiaaagammebaa
