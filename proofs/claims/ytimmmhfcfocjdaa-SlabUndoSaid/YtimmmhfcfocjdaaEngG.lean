/- Engine, part G: composite values, slices, append. -/
import Derived.Test.YtimmmhfcfocjdaaEngF
import Derived.Deep.AppendSrc
set_option linter.unusedSimpArgs false
set_option linter.unusedVariables false
namespace Go.Proofs.Ytimmmhfcfocjdaa
open Go.RowKit

/-! ### build -/
def RepL (w : World) (S : Nat → Prop) (μ : Mu) (cs : List AV) (arr : Array Value) : Prop :=
  arr.size = cs.length ∧ (∀ (j : Nat) (x : AV) (v : Value), cs[j]? = some x → arr[j]? = some v → Rep w S μ x v) ∧ (∀ v ∈ arr, v.oneCell' = true)

def fillA (pl : Nat → Option (Nat × Nat)) (cs : List AV) : List (Nat × AV) → Option (List AV)
  | [] => some cs
  | (i, x) :: rest => match pl i, cellsA x with
    | some (off, sz), some ys => if ys.length = sz ∧ off + ys.length ≤ cs.length then fillA pl (splice cs off ys) rest else none
    | _, _ => none

theorem fold_set (off : Nat) : ∀ (l : List Value) (k : Nat) (arr : Array Value), off + k + l.length ≤ arr.size →
    ((l.zipIdx k).foldl (fun (cs : Array Value) (p : Value × Nat) => cs.setIfInBounds (off + p.2) p.1) arr).toList = splice arr.toList (off + k) l
  | [], k, arr, _ => by simp [splice]
  | v :: l, k, arr, h => by
    simp only [List.zipIdx_cons, List.foldl_cons]
    rw [fold_set off l (k + 1) _ (by simp at h ⊢; omega)]
    apply List.ext_getElem?
    intro j
    rw [splice_get _ _ _ _ (by simp at h ⊢; omega), splice_get _ _ _ _ (by simp at h ⊢; omega)]
    simp only [List.length_cons, Array.toList_setIfInBounds]
    by_cases h1 : j = off + k
    · subst h1
      rw [if_neg (by omega), if_pos (by omega)]
      have : off + k < arr.toList.length := by simp at h ⊢; omega
      simp at this
      simp [List.getElem?_set, this]
    · by_cases h2 : off + (k + 1) ≤ j ∧ j < off + (k + 1) + l.length
      · rw [if_pos h2, if_pos (by omega)]
        obtain ⟨q, hq⟩ : ∃ q, j - (off + k) = q + 1 := ⟨j - (off + (k + 1)), by omega⟩
        rw [hq, List.getElem?_cons_succ]; congr 1; omega
      · rw [if_neg h2, if_neg (by omega), List.getElem?_set, if_neg (by omega)]

theorem fill_rep {w : World} {S : Nat → Prop} {μ : Mu} {pl : Nat → Option (Nat × Nat)} : ∀ {ps : List (Nat × AV)} {qs : List (Nat × Value)} {cs cs' : List AV} {arr : Array Value}, RepL w S μ cs arr → qs.length = ps.length →
    (∀ (j : Nat) (i i' : Nat) (x : AV) (v : Value), ps[j]? = some (i, x) → qs[j]? = some (i', v) → i = i' ∧ Rep w S μ x v) → fillA pl cs ps = some cs' → ∃ arr', Instr.fill pl arr qs = some arr' ∧ RepL w S μ cs' arr'
  | [], [], cs, cs', arr, h, _, _, hf => by simp [fillA] at hf; subst hf; exact ⟨arr, rfl, h⟩
  | [], _ :: _, _, _, _, _, hl, _, _ => by simp at hl
  | _ :: _, [], _, _, _, _, hl, _, _ => by simp at hl
  | (i, x) :: ps, (i', v) :: qs, cs, cs', arr, h, hl, hp, hf => by
    obtain ⟨rfl, hv⟩ := hp 0 i i' x v rfl rfl
    simp only [fillA] at hf
    split at hf
    · rename_i off sz ys h1 h2
      split at hf
      · rename_i hc
        obtain ⟨c1, c2, c3⟩ := cellsA_rep h2 hv
        obtain ⟨r1, r2, r3⟩ := h
        have hfit : off + v.cells.toList.length ≤ arr.toList.length := by simp; omega
        have e := fold_set off v.cells.toList 0 arr (by simp; omega)
        have hsp : off + ys.length ≤ cs.length := hc.2
        have key : RepL w S μ (splice cs off ys) (splice arr.toList off v.cells.toList).toArray := by
          refine ⟨by rw [List.size_toArray, splice_length _ _ _ hfit, splice_length _ _ _ hsp]; simpa using r1, fun j x' u hx hu => ?_, fun u hu => ?_⟩
          · rw [splice_get _ _ _ _ hsp] at hx
            have hu' : (splice arr.toList off v.cells.toList)[j]? = some u := by simpa using hu
            rw [splice_get _ _ _ _ hfit] at hu'
            simp only [Array.length_toList, c1] at hu'
            split at hx
            · rename_i hq; rw [if_pos hq] at hu'; exact c2 _ x' u hx (by simpa using hu')
            · rename_i hq; rw [if_neg hq] at hu'; exact r2 _ x' u hx (by simpa using hu')
          · have hm : u ∈ splice arr.toList off v.cells.toList := by simpa using hu
            unfold splice at hm
            simp only [List.mem_append] at hm
            rcases hm with (hm | hm) | hm
            · exact r3 u (by simpa using List.mem_of_mem_take hm)
            · exact c3 u (by simpa using hm)
            · exact r3 u (by simpa using List.mem_of_mem_drop hm)
        obtain ⟨arr', h3, h4⟩ := fill_rep key (by simpa using hl) (fun j a b c d h5 h6 => hp (j + 1) a b c d (by simpa using h5) (by simpa using h6)) hf
        refine ⟨arr', ?_, h4⟩
        have e2 : v.cells.zipIdx.foldl (fun (cs : Array Value) (p : Value × Nat) => cs.setIfInBounds (off + p.2) p.1) arr = (splice arr.toList off v.cells.toList).toArray := by
          apply Array.ext'
          rw [← Array.foldl_toList, Array.toList_zipIdx]
          simpa using e
        have e3 : ¬ (v.cells.size ≠ sz || off + v.cells.size > arr.size) = true := by simp; omega
        simp only [Instr.fill, h1]
        rw [if_neg e3]
        rw [show (fun (cs : Array Value) (x : Value × Nat) => match x with | (c, j) => cs.setIfInBounds (off + j) c) = (fun (cs : Array Value) (p : Value × Nat) => cs.setIfInBounds (off + p.2) p.1) from rfl, e2]
        exact h3
      · cases hf
    · cases hf

def getP (ts : Nat → Option AV) : List (Nat × Operand) → Option (List (Nat × AV))
  | [] => some []
  | (i, x) :: l => match getT ts x, getP ts l with
    | some y, some m => some ((i, y) :: m)
    | _, _ => none

theorem getP_get {ts : Nat → Option AV} : ∀ {l : List (Nat × Operand)} {m : List (Nat × AV)}, getP ts l = some m → m.length = l.length ∧ ∀ (j i i' : Nat) (x : Operand) (y : AV), l[j]? = some (i, x) → m[j]? = some (i', y) → i' = i ∧ getT ts x = some y
  | [], m, h => by simp [getP] at h; subst h; simp
  | (i, x) :: l, m, h => by
    simp only [getP] at h
    split at h
    · rename_i y m' h1 h2
      injection h with h; subst h
      obtain ⟨u1, u2⟩ := getP_get h2
      refine ⟨by simp [u1], fun j i1 i2 x' y' hx hy => ?_⟩
      cases j with
      | zero => simp at hx hy; obtain ⟨rfl, rfl⟩ := hx; obtain ⟨rfl, rfl⟩ := hy; exact ⟨rfl, h1⟩
      | succ j => simp at hx hy; exact u2 j i1 i2 x' y' hx hy
    · cases h

def plOf (P : Program) (t : TypeId) : Option (Nat → Option (Nat × Nat)) :=
  match (TL P t).aelem with
  | some (_, e) => if (TL P e).ok then some (fun i => some (i * (TL P e).size, (TL P e).size)) else none
  | none => match (TL P t).pls with
    | some l => some (fun i => l[i]?)
    | none => none

def buildV (P : Program) (t : TypeId) (ps : List (Nat × AV)) (K : AV → Prop) : Prop :=
  match plOf P t, (TL P t).zero with
  | some pl, some z => ∃ cs, fillA pl z ps = some cs ∧ K (.agg cs)
  | _, _ => False

theorem built_of {P : Program} {t : TypeId} {pl : Nat → Option (Nat × Nat)} {z : Value} {i : TypeInfo} {qs : List (Nat × Value)} {arr : Array Value} (hp : plOf P t = some pl) (hi : P.info? t = some i) (hz : i.zero = some z) (hf : Instr.fill pl z.cells qs = some arr) :
    P.built t qs = some arr := by
  unfold plOf at hp
  cases hu : P.underlying t with
  | none => simp [TL, hi, hu] at hp
  | some d =>
    cases d with
    | array n e =>
      have he : (TL P t).aelem = some (n, e) := by simp [TL, hi, hu]
      rw [he] at hp
      simp only at hp
      split at hp
      · rename_i hok
        obtain ⟨ie, _, h1, _, h2, _⟩ := TL_ok hok
        injection hp with hp; subst hp
        unfold Program.built
        simp only [hi, hu, hz, h1, ← h2]
        exact hf
      · cases hp
    | struct fs =>
      have he : (TL P t).aelem = none := by simp [TL, hi, hu]
      have hl : (TL P t).pls = fs.toList.mapM (fun f => (P.info? f.type).map fun i => (f.offset, i.size)) := by simp [TL, hi, hu]
      rw [he, hl] at hp
      simp only at hp
      cases hm : fs.toList.mapM (fun f => (P.info? f.type).map fun i => (f.offset, i.size)) with
      | none => simp [hm] at hp
      | some l =>
        simp only [hm] at hp
        injection hp with hp; subst hp
        unfold Program.built
        simp only [hi, hu, hz, hm]
        simpa using hf
    | _ => simp [TL, hi, hu] at hp

theorem loc_build {cx : Cx} {n0 : Nat} {ts : Nat → Option AV} {hs : Nat → Option Ob} {o : Oper} {t : TypeId} {parts : Array (Nat × Operand)} {ps : List (Nat × AV)} {K : Eff → Prop} (hd : dstOk cx.n o.dst) (ho : o.op = .build t parts)
    (hp : getP ts parts.toList = some ps) (h : buildV cx.P t ps fun x => K ⟨x, [], [], []⟩) : ∃ e, LocOp cx n0 ts hs o e ∧ K e := by
  unfold buildV at h
  split at h
  · rename_i pl z hpl hz
    obtain ⟨cs, hf, hK⟩ := h
    obtain ⟨i, zv, h1, h2, h3, _, _, h4, h5⟩ := TL_zero hz
    obtain ⟨gl, gg⟩ := getP_get hp
    refine ⟨_, loc_val hd fun H T μ a w hr he _ => ?_, hK⟩
    obtain ⟨arr', h6, h7⟩ := fill_rep (w := w) (S := cx.Sta H μ w) (μ := μ) (pl := pl) (ps := ps) (qs := (parts.map fun (i, x) => (i, a.eval x)).toList) (cs := z) (arr := zv.cells) ⟨h3, fun j x v hx hv => h4 _ _ _ j x v hx hv, h5⟩ (by simp; simp at gl; omega) (by
      intro j i1 i2 x v hx hv
      simp only [Array.toList_map, List.getElem?_map] at hv
      cases hq : parts.toList[j]? with
      | none => simp [hq] at hv
      | some q =>
        obtain ⟨i3, y⟩ := q
        simp [hq] at hv
        obtain ⟨rfl, rfl⟩ := hv
        obtain ⟨rfl, hg⟩ := gg j i3 i1 y x hq hx
        refine ⟨rfl, he y x ?_ hg⟩
        simp only [Op.operands, ho]
        have hm : (i1, y) ∈ parts.toList := List.mem_of_getElem? hq
        simp only [List.mem_toArray, List.mem_map]
        exact ⟨_, hm, rfl⟩) hf
    refine ⟨.agg arr', ?_, .agg h7.1 h7.2.1 h7.2.2⟩
    simp only [execOp, ho]
    exact run_v (run_build w t _ arr' (built_of hpl h1 h2 h6))
  · exact h.elim

/-! ### the parts of a value -/
def fieldV (P : Program) (t : TypeId) (k : Nat) (x : AV) (K : AV → Prop) : Prop :=
  (TL P t).ok = true ∧ ∃ off z b, (TL P t).ofs[k]? = some off ∧ (TL P t).osz[k]? = some z ∧ 0 < z ∧ (TL P t).oagg[k]? = some (some b) ∧
  match x with
  | .agg cs => if b then off + z ≤ cs.length ∧ K (.agg ((cs.drop off).take z)) else ∃ y, cs[off]? = some y ∧ K y
  | _ => False

theorem loc_field {cx : Cx} {n0 : Nat} {ts : Nat → Option AV} {hs : Nat → Option Ob} {o : Oper} {t : TypeId} {y : Operand} {k : Nat} {x : AV} {K : Eff → Prop} (hd : dstOk cx.n o.dst) (ho : o.op = .field t y k) (hy : getT ts y = some x)
    (h : fieldV cx.P t k x fun x => K ⟨x, [], [], []⟩) : ∃ e, LocOp cx n0 ts hs o e ∧ K e := by
  obtain ⟨hok, off, z, b, h1, h2, hz, h3, h4⟩ := h
  obtain ⟨fs, f, hu, hf, rfl, hc, hag⟩ := TL_struct hok h1 h2
  obtain ⟨i, hi, hsz⟩ := cellsOf_info hc hz
  rw [h3] at hag
  injection hag with hag
  have hagg : ∀ w : World, (isAgg f.type).run cx.P w = .ok b w := by
    intro w
    unfold tagg at hag
    cases hd : cx.P.underlying f.type with
    | none => simp [hd] at hag
    | some d =>
      simp [hd] at hag
      unfold isAgg
      rw [Sem.run_bind, run_underlying hd w]
      cases d <;> simp_all [aggD]
  cases x with
  | agg cs =>
    simp only at h4
    cases b with
    | true =>
      simp only [if_true] at h4
      refine ⟨_, loc_val hd fun H T μ a w hr he _ => ?_, h4.2⟩
      have h5 := he y _ (by simp [Op.operands, ho]) hy
      generalize hv : a.eval y = v at h5
      cases h5 with
      | agg r1 r2 r3 =>
        rename_i vs
        refine ⟨.agg (vs.extract f.offset (f.offset + z)), ?_, .agg (by simp; omega) (fun j x' u hx hu => ?_) (fun u hu => r3 u ?_)⟩
        · simp only [execOp, ho, hv]
          refine run_v ?_
          simp [Instr.field, run_underlying hu, hf, asAgg, part, hagg, sizeOf, typeInfo, hi, hsz]
        · rw [List.getElem?_take] at hx
          split at hx
          · rw [List.getElem?_drop] at hx
            refine r2 (f.offset + j) x' u hx ?_
            rw [Array.getElem?_extract] at hu
            split at hu
            · exact hu
            · cases hu
          · cases hx
        · obtain ⟨q, hq, rfl⟩ := Array.mem_iff_getElem.1 hu
          simp at hq ⊢
    | false =>
      simp only [Bool.false_eq_true, if_false] at h4
      obtain ⟨x', hx', hK⟩ := h4
      refine ⟨_, loc_val hd fun H T μ a w hr he _ => ?_, hK⟩
      have h5 := he y _ (by simp [Op.operands, ho]) hy
      generalize hv : a.eval y = v at h5
      cases h5 with
      | agg r1 r2 r3 =>
        rename_i vs
        have hlt : f.offset < vs.size := by rw [r1]; exact (List.getElem?_eq_some_iff.1 hx').1
        refine ⟨vs[f.offset], ?_, r2 _ x' _ hx' (by simp [hlt])⟩
        simp only [execOp, ho, hv]
        refine run_v ?_
        simp [Instr.field, run_underlying hu, hf, asAgg, part, hagg, hlt]
  | _ => exact h4.elim

def nilcV (x : AV) (K : AV → Prop) : Prop :=
  match x with
  | .ptr _ _ | .ep _ _ _ _ | .dp _ | .fn _ _ => K x
  | _ => False

theorem loc_nilCheck {cx : Cx} {n0 : Nat} {ts : Nat → Option AV} {hs : Nat → Option Ob} {o : Oper} {y : Operand} {x : AV} {K : Eff → Prop} (hd : dstOk cx.n o.dst) (ho : o.op = .nilCheck y) (hy : getT ts y = some x)
    (h : nilcV x fun x => K ⟨x, [], [], []⟩) : ∃ e, LocOp cx n0 ts hs o e ∧ K e := by
  have hK : K ⟨x, [], [], []⟩ := by cases x <;> first | exact h | exact h.elim
  refine ⟨_, loc_val hd fun H T μ a w hr he _ => ⟨a.eval y, ?_, he y x (by simp [Op.operands, ho]) hy⟩, hK⟩
  have h1 := he y x (by simp [Op.operands, ho]) hy
  generalize hv : a.eval y = v at h1
  cases h1 <;> first | (simp [nilcV] at h; done) | simp [execOp, ho, hv]

theorem loc_makeFunc {cx : Cx} {n0 : Nat} {ts : Nat → Option AV} {hs : Nat → Option Ob} {o : Oper} {f : FuncId} {caps : Array Operand} {xs : List AV} (hd : dstOk cx.n o.dst) (ho : o.op = .makeFunc (.func f) #[] caps) (hy : gets ts caps.toList = some xs) :
    LocOp cx n0 ts hs o ⟨.fn f xs, [], [], []⟩ := by
  obtain ⟨gl, gg⟩ := gets_get hy
  refine loc_val hd fun H T μ a w hr he _ => ⟨.func (.func f) #[] (caps.map a.eval), by simp [execOp, ho, Instr.makeFunc], .fn (by simp; simp at gl; omega) (fun j x v hx hv => ?_)⟩
  rw [Array.getElem?_map] at hv
  cases hq : caps[j]? with
  | none => simp [hq] at hv
  | some q =>
    simp [hq] at hv; subst hv
    exact he q x (by simp [Op.operands, ho]; exact Array.mem_of_getElem? hq) (gg j q x (by simpa using hq) hx)

/-! ### len, min, max -/
def lenV (P : Program) (t : TypeId) (x : AV) (K : AV → Prop) : Prop :=
  (TL P t).ok = true ∧
  match (TL P t).selem with
  | some _ => (match x with
    | .d (.sl rows) => K (.d (.int .i64 rows.length))
    | .row _ _ _ len => K (.d (.int .i64 len))
    | .sub _ _ _ len => K (.d (.int .i64 len))
    | .nil => K (.d (.int .i64 0))
    | _ => False)
  | none => match (TL P t).aelem with
    | some (n, _) => K (.d (.int .i64 n))
    | none => False

theorem loc_len {cx : Cx} {n0 : Nat} {ts : Nat → Option AV} {hs : Nat → Option Ob} {o : Oper} {t : TypeId} {y : Operand} {x : AV} {K : Eff → Prop} (hd : dstOk cx.n o.dst) (ho : o.op = .call { callee := .builtin .len, args := #[y], argTypes := #[t] }) (hy : getT ts y = some x)
    (h : lenV cx.P t x fun x => K ⟨x, [], [], []⟩) : ∃ e, LocOp cx n0 ts hs o e ∧ K e := by
  obtain ⟨hok, h⟩ := h
  have hop : y ∈ o.op.operands := by simp [Op.operands, ho, Call.operands]
  have fin : ∀ (n : Nat), K ⟨.d (.int .i64 n), [], [], []⟩ → (∀ (w : World) (S : Nat → Prop) (μ : Mu) (v : Value), Rep w S μ x v → (Builtin.len_ #[t] o.type #[v]).run cx.P w = .ok (.int .i64 n) w) → ∃ e, LocOp cx n0 ts hs o e ∧ K e := by
    intro n hK hrun
    refine ⟨_, loc_val hd fun H T μ a w hr he _ => ⟨_, ?_, .d .int⟩, hK⟩
    have h1 := he y x hop hy
    simp only [execOp, ho, resolve, invoke, builtin, Sem.run_bind, Sem.run_pure, Result.andThen_ok, List.map_toArray, List.map_cons, List.map_nil, hrun w _ μ _ h1]
  cases hs1 : (TL cx.P t).selem with
  | some e =>
    have hu := TL_selem hok hs1
    simp only [hs1] at h
    have run : ∀ (w : World) (A : Option Addr) (n c : Nat), (Builtin.len_ #[t] o.type #[.slice A n c]).run cx.P w = .ok (.int .i64 n) w := fun w A n c => by
      simp [Builtin.len_, run_underlying hu, goInt]
    cases x with
    | d x =>
      cases x with
      | sl rows => exact fin _ h (fun w S μ v hr => by cases hr with | d hr => cases hr <;> exact run _ _ _ _)
      | _ => exact h.elim
    | row i sz o' len => exact fin _ h (fun w S μ v hr => by cases hr <;> exact run _ _ _ _)
    | sub i sz o' len => exact fin _ h (fun w S μ v hr => by cases hr <;> exact run _ _ _ _)
    | nil => exact fin 0 h (fun w S μ v hr => by cases hr; exact run _ _ _ _)
    | _ => exact h.elim
  | none =>
    simp only [hs1] at h
    cases ha : (TL cx.P t).aelem with
    | none => simp [ha] at h
    | some me =>
      obtain ⟨m, e⟩ := me
      simp only [ha] at h
      have hu := TL_aelem hok ha
      exact fin m h (fun w S μ v hr => by simp [Builtin.len_, run_underlying hu, goInt])

def mmV (isMin : Bool) (x y : AV) (K : AV → Prop) : Prop :=
  match x, y with
  | .d (.int k a), .d (.int _ b) => K (.d (.int k (if isMin then (if b < a then b else a) else (if b > a then b else a))))
  | _, _ => False

theorem loc_min {cx : Cx} {n0 : Nat} {ts : Nat → Option AV} {hs : Nat → Option Ob} {o : Oper} {tt : Array TypeId} {y z : Operand} {p q : AV} {K : Eff → Prop} (hd : dstOk cx.n o.dst) (ho : o.op = .call { callee := .builtin .min, args := #[y, z], argTypes := tt })
    (hy : getT ts y = some p) (hz : getT ts z = some q) (h : mmV true p q fun x => K ⟨x, [], [], []⟩) : ∃ e, LocOp cx n0 ts hs o e ∧ K e := by
  unfold mmV at h
  split at h
  · rename_i k a k' b
    refine ⟨_, loc_val hd fun H T μ a' w hr he _ => ⟨_, ?_, .d .int⟩, h⟩
    have h1 := he y _ (by simp [Op.operands, ho, Call.operands]) hy
    have h2 := he z _ (by simp [Op.operands, ho, Call.operands]) hz
    generalize hv1 : a'.eval y = v1 at h1
    generalize hv2 : a'.eval z = v2 at h2
    cases h1 with | d h1 => cases h1; cases h2 with | d h2 =>
      cases h2
      simp only [execOp, ho, resolve, invoke, builtin, Sem.run_bind, Sem.run_pure, Result.andThen_ok, List.map_toArray, List.map_cons, List.map_nil, hv1, hv2, Builtin.min_]
      simp [Builtin.min2]
  · exact h.elim
theorem loc_max {cx : Cx} {n0 : Nat} {ts : Nat → Option AV} {hs : Nat → Option Ob} {o : Oper} {tt : Array TypeId} {y z : Operand} {p q : AV} {K : Eff → Prop} (hd : dstOk cx.n o.dst) (ho : o.op = .call { callee := .builtin .max, args := #[y, z], argTypes := tt })
    (hy : getT ts y = some p) (hz : getT ts z = some q) (h : mmV false p q fun x => K ⟨x, [], [], []⟩) : ∃ e, LocOp cx n0 ts hs o e ∧ K e := by
  unfold mmV at h
  split at h
  · rename_i k a k' b
    refine ⟨_, loc_val hd fun H T μ a' w hr he _ => ⟨_, ?_, .d .int⟩, h⟩
    have h1 := he y _ (by simp [Op.operands, ho, Call.operands]) hy
    have h2 := he z _ (by simp [Op.operands, ho, Call.operands]) hz
    generalize hv1 : a'.eval y = v1 at h1
    generalize hv2 : a'.eval z = v2 at h2
    cases h1 with | d h1 => cases h1; cases h2 with | d h2 =>
      cases h2
      simp only [execOp, ho, resolve, invoke, builtin, Sem.run_bind, Sem.run_pure, Result.andThen_ok, List.map_toArray, List.map_cons, List.map_nil, hv1, hv2, Builtin.max_]
      simp [Builtin.max2]
  · exact h.elim
end Go.Proofs.Ytimmmhfcfocjdaa
