import Derived.Test.YtdfolpfibhfmlaaEngF
import Derived.Deep.AppendSrc

/- Engine, part G: composite values, slices, append. -/
namespace Go.Proofs.Ytdfolpfibhfmlaa
set_option linter.unusedSimpArgs false
set_option linter.unusedVariables false
open Go.RowKit

/-! ### build -/
def RepL (w : World) (S : Nat → Prop) (μ : Mu) (cs : List AV) (arr : Array Value) : Prop :=
  arr.size = cs.length ∧ (∀ (j : Nat) (x : AV) (v : Value), cs[j]? = some x → arr[j]? = some v → Rep w S μ x v) ∧ (∀ v ∈ arr, v.oneCell' = true)

def fillA (pl : Nat → Option (Nat × Nat)) (cs : List AV) : List (Nat × AV) → Option (List AV)
  | [] => some cs
  | (i, x) :: rest => match pl i, cellsA x with
    | some (off, sz), some ys => if ys.length = sz ∧ off + ys.length ≤ cs.length then fillA pl (splice cs off ys) rest else none
    | _, _ => none

theorem fold_set (off : Nat) : ∀ (l : List Value) (k : Nat) (arr : Array Value), off + k + l.length ≤ arr.size →
    ((l.zipIdx k).foldl (fun (cs : Array Value) (p : Value × Nat) => cs.setIfInBounds (off + p.2) p.1) arr).toList = splice arr.toList (off + k) l
  | [], k, arr, _ => by simp [splice]
  | v :: l, k, arr, h => by
    simp only [List.zipIdx_cons, List.foldl_cons]
    rw [fold_set off l (k + 1) _ (by simp at h ⊢; omega)]
    apply List.ext_getElem?
    intro j
    rw [splice_get _ _ _ _ (by simp at h ⊢; omega), splice_get _ _ _ _ (by simp at h ⊢; omega)]
    simp only [List.length_cons, Array.toList_setIfInBounds]
    by_cases h1 : j = off + k
    · subst h1
      rw [if_neg (by omega), if_pos (by omega)]
      have : off + k < arr.toList.length := by simp at h ⊢; omega
      simp at this
      simp [List.getElem?_set, this]
    · by_cases h2 : off + (k + 1) ≤ j ∧ j < off + (k + 1) + l.length
      · rw [if_pos h2, if_pos (by omega)]
        obtain ⟨q, hq⟩ : ∃ q, j - (off + k) = q + 1 := ⟨j - (off + (k + 1)), by omega⟩
        rw [hq, List.getElem?_cons_succ]; congr 1; omega
      · rw [if_neg h2, if_neg (by omega), List.getElem?_set, if_neg (by omega)]

theorem fill_rep {w : World} {S : Nat → Prop} {μ : Mu} {pl : Nat → Option (Nat × Nat)} : ∀ {ps : List (Nat × AV)} {qs : List (Nat × Value)} {cs cs' : List AV} {arr : Array Value}, RepL w S μ cs arr → qs.length = ps.length →
    (∀ (j : Nat) (i i' : Nat) (x : AV) (v : Value), ps[j]? = some (i, x) → qs[j]? = some (i', v) → i = i' ∧ Rep w S μ x v) → fillA pl cs ps = some cs' → ∃ arr', Instr.fill pl arr qs = some arr' ∧ RepL w S μ cs' arr'
  | [], [], cs, cs', arr, h, _, _, hf => by simp [fillA] at hf; subst hf; exact ⟨arr, rfl, h⟩
  | [], _ :: _, _, _, _, _, hl, _, _ => by simp at hl
  | _ :: _, [], _, _, _, _, hl, _, _ => by simp at hl
  | (i, x) :: ps, (i', v) :: qs, cs, cs', arr, h, hl, hp, hf => by
    obtain ⟨rfl, hv⟩ := hp 0 i i' x v rfl rfl
    simp only [fillA] at hf
    split at hf
    · rename_i off sz ys h1 h2
      split at hf
      · rename_i hc
        obtain ⟨c1, c2, c3⟩ := cellsA_rep h2 hv
        obtain ⟨r1, r2, r3⟩ := h
        have hfit : off + v.cells.toList.length ≤ arr.toList.length := by simp; omega
        have e := fold_set off v.cells.toList 0 arr (by simp; omega)
        have hsp : off + ys.length ≤ cs.length := hc.2
        have key : RepL w S μ (splice cs off ys) (splice arr.toList off v.cells.toList).toArray := by
          refine ⟨by rw [List.size_toArray, splice_length _ _ _ hfit, splice_length _ _ _ hsp]; simpa using r1, fun j x' u hx hu => ?_, fun u hu => ?_⟩
          · rw [splice_get _ _ _ _ hsp] at hx
            have hu' : (splice arr.toList off v.cells.toList)[j]? = some u := by simpa using hu
            rw [splice_get _ _ _ _ hfit] at hu'
            simp only [Array.length_toList, c1] at hu'
            split at hx
            · rename_i hq; rw [if_pos hq] at hu'; exact c2 _ x' u hx (by simpa using hu')
            · rename_i hq; rw [if_neg hq] at hu'; exact r2 _ x' u hx (by simpa using hu')
          · have hm : u ∈ splice arr.toList off v.cells.toList := by simpa using hu
            unfold splice at hm
            simp only [List.mem_append] at hm
            rcases hm with (hm | hm) | hm
            · exact r3 u (by simpa using List.mem_of_mem_take hm)
            · exact c3 u (by simpa using hm)
            · exact r3 u (by simpa using List.mem_of_mem_drop hm)
        obtain ⟨arr', h3, h4⟩ := fill_rep key (by simpa using hl) (fun j a b c d h5 h6 => hp (j + 1) a b c d (by simpa using h5) (by simpa using h6)) hf
        refine ⟨arr', ?_, h4⟩
        have e2 : v.cells.zipIdx.foldl (fun (cs : Array Value) (p : Value × Nat) => cs.setIfInBounds (off + p.2) p.1) arr = (splice arr.toList off v.cells.toList).toArray := by
          apply Array.ext'
          rw [← Array.foldl_toList, Array.toList_zipIdx]
          simpa using e
        have e3 : ¬ (v.cells.size ≠ sz || off + v.cells.size > arr.size) = true := by simp; omega
        simp only [Instr.fill, h1]
        rw [if_neg e3]
        rw [show (fun (cs : Array Value) (x : Value × Nat) => match x with | (c, j) => cs.setIfInBounds (off + j) c) = (fun (cs : Array Value) (p : Value × Nat) => cs.setIfInBounds (off + p.2) p.1) from rfl, e2]
        exact h3
      · cases hf
    · cases hf

def getP (ts : Nat → Option AV) : List (Nat × Operand) → Option (List (Nat × AV))
  | [] => some []
  | (i, x) :: l => match getT ts x, getP ts l with
    | some y, some m => some ((i, y) :: m)
    | _, _ => none

theorem getP_get {ts : Nat → Option AV} : ∀ {l : List (Nat × Operand)} {m : List (Nat × AV)}, getP ts l = some m → m.length = l.length ∧ ∀ (j i i' : Nat) (x : Operand) (y : AV), l[j]? = some (i, x) → m[j]? = some (i', y) → i' = i ∧ getT ts x = some y
  | [], m, h => by simp [getP] at h; subst h; simp
  | (i, x) :: l, m, h => by
    simp only [getP] at h
    split at h
    · rename_i y m' h1 h2
      injection h with h; subst h
      obtain ⟨u1, u2⟩ := getP_get h2
      refine ⟨by simp [u1], fun j i1 i2 x' y' hx hy => ?_⟩
      cases j with
      | zero => simp at hx hy; obtain ⟨rfl, rfl⟩ := hx; obtain ⟨rfl, rfl⟩ := hy; exact ⟨rfl, h1⟩
      | succ j => simp at hx hy; exact u2 j i1 i2 x' y' hx hy
    · cases h

def plOf (P : Program) (t : TypeId) : Option (Nat → Option (Nat × Nat)) :=
  match (TL P t).aelem with
  | some (_, e) => if (TL P e).ok then some (fun i => some (i * (TL P e).size, (TL P e).size)) else none
  | none => match (TL P t).pls with
    | some l => some (fun i => l[i]?)
    | none => none

def buildV (P : Program) (t : TypeId) (ps : List (Nat × AV)) (K : AV → Prop) : Prop :=
  match plOf P t, (TL P t).zero with
  | some pl, some z => ∃ cs, fillA pl z ps = some cs ∧ K (.agg cs)
  | _, _ => False

theorem built_of {P : Program} {t : TypeId} {pl : Nat → Option (Nat × Nat)} {z : Value} {i : TypeInfo} {qs : List (Nat × Value)} {arr : Array Value} (hp : plOf P t = some pl) (hi : P.info? t = some i) (hz : i.zero = some z) (hf : Instr.fill pl z.cells qs = some arr) :
    P.built t qs = some arr := by
  unfold plOf at hp
  cases hu : P.underlying t with
  | none => simp [TL, hi, hu] at hp
  | some d =>
    cases d with
    | array n e =>
      have he : (TL P t).aelem = some (n, e) := by simp [TL, hi, hu]
      rw [he] at hp
      simp only at hp
      split at hp
      · rename_i hok
        obtain ⟨ie, _, h1, _, h2, _⟩ := TL_ok hok
        injection hp with hp; subst hp
        unfold Program.built
        simp only [hi, hu, hz, h1, ← h2]
        exact hf
      · cases hp
    | struct fs =>
      have he : (TL P t).aelem = none := by simp [TL, hi, hu]
      have hl : (TL P t).pls = fs.toList.mapM (fun f => (P.info? f.type).map fun i => (f.offset, i.size)) := by simp [TL, hi, hu]
      rw [he, hl] at hp
      simp only at hp
      cases hm : fs.toList.mapM (fun f => (P.info? f.type).map fun i => (f.offset, i.size)) with
      | none => simp [hm] at hp
      | some l =>
        simp only [hm] at hp
        injection hp with hp; subst hp
        unfold Program.built
        simp only [hi, hu, hz, hm]
        simpa using hf
    | _ => simp [TL, hi, hu] at hp

theorem loc_build {cx : Cx} {n0 : Nat} {ts : Nat → Option AV} {hs : Nat → Option Ob} {o : Oper} {t : TypeId} {parts : Array (Nat × Operand)} {ps : List (Nat × AV)} {K : Eff → Prop} (hd : dstOk cx.n o.dst) (ho : o.op = .build t parts)
    (hp : getP ts parts.toList = some ps) (h : buildV cx.P t ps fun x => K ⟨x, [], [], []⟩) : ∃ e, LocOp cx n0 ts hs o e ∧ K e := by
  unfold buildV at h
  split at h
  · rename_i pl z hpl hz
    obtain ⟨cs, hf, hK⟩ := h
    obtain ⟨i, zv, h1, h2, h3, _, _, h4, h5⟩ := TL_zero hz
    obtain ⟨gl, gg⟩ := getP_get hp
    refine ⟨_, loc_val hd fun H T μ a w hr he _ => ?_, hK⟩
    obtain ⟨arr', h6, h7⟩ := fill_rep (w := w) (S := cx.Sta H μ w) (μ := μ) (pl := pl) (ps := ps) (qs := (parts.map fun (i, x) => (i, a.eval x)).toList) (cs := z) (arr := zv.cells) ⟨h3, fun j x v hx hv => h4 _ _ _ j x v hx hv, h5⟩ (by simp; simp at gl; omega) (by
      intro j i1 i2 x v hx hv
      simp only [Array.toList_map, List.getElem?_map] at hv
      cases hq : parts.toList[j]? with
      | none => simp [hq] at hv
      | some q =>
        obtain ⟨i3, y⟩ := q
        simp [hq] at hv
        obtain ⟨rfl, rfl⟩ := hv
        obtain ⟨rfl, hg⟩ := gg j i3 i1 y x hq hx
        refine ⟨rfl, he y x ?_ hg⟩
        simp only [Op.operands, ho]
        have hm : (i1, y) ∈ parts.toList := List.mem_of_getElem? hq
        simp only [List.mem_toArray, List.mem_map]
        exact ⟨_, hm, rfl⟩) hf
    refine ⟨.agg arr', ?_, .agg h7.1 h7.2.1 h7.2.2⟩
    simp only [execOp, ho]
    exact run_v (run_build w t _ arr' (built_of hpl h1 h2 h6))
  · exact h.elim

/-! ### the parts of a value -/
def fieldV (P : Program) (t : TypeId) (k : Nat) (x : AV) (K : AV → Prop) : Prop :=
  (TL P t).ok = true ∧ ∃ off z b, (TL P t).ofs[k]? = some off ∧ (TL P t).osz[k]? = some z ∧ 0 < z ∧ (TL P t).oagg[k]? = some (some b) ∧
  match x with
  | .agg cs => if b then off + z ≤ cs.length ∧ K (.agg ((cs.drop off).take z)) else ∃ y, cs[off]? = some y ∧ K y
  | _ => False

theorem loc_field {cx : Cx} {n0 : Nat} {ts : Nat → Option AV} {hs : Nat → Option Ob} {o : Oper} {t : TypeId} {y : Operand} {k : Nat} {x : AV} {K : Eff → Prop} (hd : dstOk cx.n o.dst) (ho : o.op = .field t y k) (hy : getT ts y = some x)
    (h : fieldV cx.P t k x fun x => K ⟨x, [], [], []⟩) : ∃ e, LocOp cx n0 ts hs o e ∧ K e := by
  obtain ⟨hok, off, z, b, h1, h2, hz, h3, h4⟩ := h
  obtain ⟨fs, f, hu, hf, rfl, hc, hag⟩ := TL_struct hok h1 h2
  obtain ⟨i, hi, hsz⟩ := cellsOf_info hc hz
  rw [h3] at hag
  injection hag with hag
  have hagg : ∀ w : World, (isAgg f.type).run cx.P w = .ok b w := by
    intro w
    unfold tagg at hag
    cases hd : cx.P.underlying f.type with
    | none => simp [hd] at hag
    | some d =>
      simp [hd] at hag
      unfold isAgg
      rw [Sem.run_bind, run_underlying hd w]
      cases d <;> simp_all [aggD]
  cases x with
  | agg cs =>
    simp only at h4
    cases b with
    | true =>
      simp only [if_true] at h4
      refine ⟨_, loc_val hd fun H T μ a w hr he _ => ?_, h4.2⟩
      have h5 := he y _ (by simp [Op.operands, ho]) hy
      generalize hv : a.eval y = v at h5
      cases h5 with
      | agg r1 r2 r3 =>
        rename_i vs
        refine ⟨.agg (vs.extract f.offset (f.offset + z)), ?_, .agg (by simp; omega) (fun j x' u hx hu => ?_) (fun u hu => r3 u ?_)⟩
        · simp only [execOp, ho, hv]
          refine run_v ?_
          simp [Instr.field, run_underlying hu, hf, asAgg, part, hagg, sizeOf, typeInfo, hi, hsz]
        · rw [List.getElem?_take] at hx
          split at hx
          · rw [List.getElem?_drop] at hx
            refine r2 (f.offset + j) x' u hx ?_
            rw [Array.getElem?_extract] at hu
            split at hu
            · exact hu
            · cases hu
          · cases hx
        · obtain ⟨q, hq, rfl⟩ := Array.mem_iff_getElem.1 hu
          simp at hq ⊢
    | false =>
      simp only [Bool.false_eq_true, if_false] at h4
      obtain ⟨x', hx', hK⟩ := h4
      refine ⟨_, loc_val hd fun H T μ a w hr he _ => ?_, hK⟩
      have h5 := he y _ (by simp [Op.operands, ho]) hy
      generalize hv : a.eval y = v at h5
      cases h5 with
      | agg r1 r2 r3 =>
        rename_i vs
        have hlt : f.offset < vs.size := by rw [r1]; exact (List.getElem?_eq_some_iff.1 hx').1
        refine ⟨vs[f.offset], ?_, r2 _ x' _ hx' (by simp [hlt])⟩
        simp only [execOp, ho, hv]
        refine run_v ?_
        simp [Instr.field, run_underlying hu, hf, asAgg, part, hagg, hlt]
  | _ => exact h4.elim

def nilcV (x : AV) (K : AV → Prop) : Prop :=
  match x with
  | .ptr _ _ | .ep _ _ _ _ | .dp _ | .fn _ _ => K x
  | _ => False

theorem loc_nilCheck {cx : Cx} {n0 : Nat} {ts : Nat → Option AV} {hs : Nat → Option Ob} {o : Oper} {y : Operand} {x : AV} {K : Eff → Prop} (hd : dstOk cx.n o.dst) (ho : o.op = .nilCheck y) (hy : getT ts y = some x)
    (h : nilcV x fun x => K ⟨x, [], [], []⟩) : ∃ e, LocOp cx n0 ts hs o e ∧ K e := by
  have hK : K ⟨x, [], [], []⟩ := by cases x <;> first | exact h | exact h.elim
  refine ⟨_, loc_val hd fun H T μ a w hr he _ => ⟨a.eval y, ?_, he y x (by simp [Op.operands, ho]) hy⟩, hK⟩
  have h1 := he y x (by simp [Op.operands, ho]) hy
  generalize hv : a.eval y = v at h1
  cases h1 <;> first | (simp [nilcV] at h; done) | simp [execOp, ho, hv]

theorem loc_makeFunc {cx : Cx} {n0 : Nat} {ts : Nat → Option AV} {hs : Nat → Option Ob} {o : Oper} {f : FuncId} {caps : Array Operand} {xs : List AV} (hd : dstOk cx.n o.dst) (ho : o.op = .makeFunc (.func f) #[] caps) (hy : gets ts caps.toList = some xs) :
    LocOp cx n0 ts hs o ⟨.fn f xs, [], [], []⟩ := by
  obtain ⟨gl, gg⟩ := gets_get hy
  refine loc_val hd fun H T μ a w hr he _ => ⟨.func (.func f) #[] (caps.map a.eval), by simp [execOp, ho, Instr.makeFunc], .fn (by simp; simp at gl; omega) (fun j x v hx hv => ?_)⟩
  rw [Array.getElem?_map] at hv
  cases hq : caps[j]? with
  | none => simp [hq] at hv
  | some q =>
    simp [hq] at hv; subst hv
    exact he q x (by simp [Op.operands, ho]; exact Array.mem_of_getElem? hq) (gg j q x (by simpa using hq) hx)

/-! ### len, min, max -/
def lenV (P : Program) (t : TypeId) (x : AV) (K : AV → Prop) : Prop :=
  (TL P t).ok = true ∧
  match (TL P t).selem with
  | some _ => (match x with
    | .d (.sl rows) => K (.d (.int .i64 rows.length))
    | .row _ _ _ len => K (.d (.int .i64 len))
    | .sub _ _ _ len => K (.d (.int .i64 len))
    | .rowc _ _ len _ => K (.d (.int .i64 len))
    | .nil => K (.d (.int .i64 0))
    | _ => False)
  | none => match (TL P t).aelem with
    | some (n, _) => K (.d (.int .i64 n))
    | none => match x with
      | .d (.str s) => P.underlying t = some .string ∧ K (.d (.int .i64 s.size))
      | _ => False

theorem loc_len {cx : Cx} {n0 : Nat} {ts : Nat → Option AV} {hs : Nat → Option Ob} {o : Oper} {t : TypeId} {y : Operand} {x : AV} {K : Eff → Prop} (hd : dstOk cx.n o.dst) (ho : o.op = .call { callee := .builtin .len, args := #[y], argTypes := #[t] }) (hy : getT ts y = some x)
    (h : lenV cx.P t x fun x => K ⟨x, [], [], []⟩) : ∃ e, LocOp cx n0 ts hs o e ∧ K e := by
  obtain ⟨hok, h⟩ := h
  have hop : y ∈ o.op.operands := by simp [Op.operands, ho, Call.operands]
  have fin : ∀ (n : Nat), K ⟨.d (.int .i64 n), [], [], []⟩ → (∀ (w : World) (S : Nat → Prop) (μ : Mu) (v : Value), Rep w S μ x v → (Builtin.len_ #[t] o.type #[v]).run cx.P w = .ok (.int .i64 n) w) → ∃ e, LocOp cx n0 ts hs o e ∧ K e := by
    intro n hK hrun
    refine ⟨_, loc_val hd fun H T μ a w hr he _ => ⟨_, ?_, .d .int⟩, hK⟩
    have h1 := he y x hop hy
    simp only [execOp, ho, resolve, invoke, builtin, Sem.run_bind, Sem.run_pure, Result.andThen_ok, List.map_toArray, List.map_cons, List.map_nil, hrun w _ μ _ h1]
  cases hs1 : (TL cx.P t).selem with
  | some e =>
    have hu := TL_selem hok hs1
    simp only [hs1] at h
    have run : ∀ (w : World) (A : Option Addr) (n c : Nat), (Builtin.len_ #[t] o.type #[.slice A n c]).run cx.P w = .ok (.int .i64 n) w := fun w A n c => by
      simp [Builtin.len_, run_underlying hu, goInt]
    cases x with
    | d x =>
      cases x with
      | sl rows => exact fin _ h (fun w S μ v hr => by cases hr with | d hr => cases hr <;> exact run _ _ _ _)
      | _ => exact h.elim
    | row i sz o' len => exact fin _ h (fun w S μ v hr => by cases hr <;> exact run _ _ _ _)
    | sub i sz o' len => exact fin _ h (fun w S μ v hr => by cases hr <;> exact run _ _ _ _)
    | rowc i sz len c => exact fin _ h (fun w S μ v hr => by cases hr <;> exact run _ _ _ _)
    | nil => exact fin 0 h (fun w S μ v hr => by cases hr; exact run _ _ _ _)
    | _ => exact h.elim
  | none =>
    simp only [hs1] at h
    cases ha : (TL cx.P t).aelem with
    | none =>
      simp only [ha] at h
      cases x with
      | d x =>
        cases x with
        | str s =>
          obtain ⟨hu, h⟩ := h
          exact fin s.size h (fun w S μ v hr => by cases hr with | d hr => cases hr; simp [Builtin.len_, run_underlying hu, goInt])
        | _ => exact h.elim
      | _ => exact h.elim
    | some me =>
      obtain ⟨m, e⟩ := me
      simp only [ha] at h
      have hu := TL_aelem hok ha
      exact fin m h (fun w S μ v hr => by simp [Builtin.len_, run_underlying hu, goInt])

def mmV (isMin : Bool) (x y : AV) (K : AV → Prop) : Prop :=
  match x, y with
  | .d (.int k a), .d (.int _ b) => K (.d (.int k (if isMin then (if b < a then b else a) else (if b > a then b else a))))
  | _, _ => False

theorem loc_min {cx : Cx} {n0 : Nat} {ts : Nat → Option AV} {hs : Nat → Option Ob} {o : Oper} {tt : Array TypeId} {y z : Operand} {p q : AV} {K : Eff → Prop} (hd : dstOk cx.n o.dst) (ho : o.op = .call { callee := .builtin .min, args := #[y, z], argTypes := tt })
    (hy : getT ts y = some p) (hz : getT ts z = some q) (h : mmV true p q fun x => K ⟨x, [], [], []⟩) : ∃ e, LocOp cx n0 ts hs o e ∧ K e := by
  unfold mmV at h
  split at h
  · rename_i k a k' b
    refine ⟨_, loc_val hd fun H T μ a' w hr he _ => ⟨_, ?_, .d .int⟩, h⟩
    have h1 := he y _ (by simp [Op.operands, ho, Call.operands]) hy
    have h2 := he z _ (by simp [Op.operands, ho, Call.operands]) hz
    generalize hv1 : a'.eval y = v1 at h1
    generalize hv2 : a'.eval z = v2 at h2
    cases h1 with | d h1 => cases h1; cases h2 with | d h2 =>
      cases h2
      simp only [execOp, ho, resolve, invoke, builtin, Sem.run_bind, Sem.run_pure, Result.andThen_ok, List.map_toArray, List.map_cons, List.map_nil, hv1, hv2, Builtin.min_]
      simp [Builtin.min2]
  · exact h.elim
theorem loc_max {cx : Cx} {n0 : Nat} {ts : Nat → Option AV} {hs : Nat → Option Ob} {o : Oper} {tt : Array TypeId} {y z : Operand} {p q : AV} {K : Eff → Prop} (hd : dstOk cx.n o.dst) (ho : o.op = .call { callee := .builtin .max, args := #[y, z], argTypes := tt })
    (hy : getT ts y = some p) (hz : getT ts z = some q) (h : mmV false p q fun x => K ⟨x, [], [], []⟩) : ∃ e, LocOp cx n0 ts hs o e ∧ K e := by
  unfold mmV at h
  split at h
  · rename_i k a k' b
    refine ⟨_, loc_val hd fun H T μ a' w hr he _ => ⟨_, ?_, .d .int⟩, h⟩
    have h1 := he y _ (by simp [Op.operands, ho, Call.operands]) hy
    have h2 := he z _ (by simp [Op.operands, ho, Call.operands]) hz
    generalize hv1 : a'.eval y = v1 at h1
    generalize hv2 : a'.eval z = v2 at h2
    cases h1 with | d h1 => cases h1; cases h2 with | d h2 =>
      cases h2
      simp only [execOp, ho, resolve, invoke, builtin, Sem.run_bind, Sem.run_pure, Result.andThen_ok, List.map_toArray, List.map_cons, List.map_nil, hv1, hv2, Builtin.max_]
      simp [Builtin.max2]
  · exact h.elim
end Go.Proofs.Ytdfolpfibhfmlaa

/- Engine, part H: slices that the call makes. -/
namespace Go.Proofs.Ytdfolpfibhfmlaa
set_option linter.unusedSimpArgs false
set_option linter.unusedVariables false
open Go.RowKit

def chunks (sz : Nat) : Nat → List D → List (List D)
  | 0, _ => []
  | n + 1, l => l.take sz :: chunks sz n (l.drop sz)

theorem chunks_len (sz : Nat) : ∀ (n : Nat) (l : List D), (chunks sz n l).length = n
  | 0, _ => rfl
  | n + 1, l => by simp [chunks, chunks_len sz n]
theorem chunks_get (sz : Nat) : ∀ (n : Nat) (l : List D) (k : Nat) (r : List D), l.length = n * sz → (chunks sz n l)[k]? = some r → r.length = sz ∧ ∀ j, j < sz → r[j]? = l[k * sz + j]?
  | 0, _, _, _, _, h => by simp [chunks] at h
  | n + 1, l, k, r, hl, h => by
    rw [Nat.add_mul, Nat.one_mul] at hl
    cases k with
    | zero =>
      simp [chunks] at h; subst h
      refine ⟨by simp; omega, fun j hj => by simp [List.getElem?_take, hj]⟩
    | succ k =>
      simp [chunks] at h
      obtain ⟨h1, h2⟩ := chunks_get sz n (l.drop sz) k r (by simp; omega) h
      refine ⟨h1, fun j hj => ?_⟩
      rw [h2 j hj, List.getElem?_drop, Nat.add_mul, Nat.one_mul]
      congr 1; omega

theorem flat_rep {α : Type} (z : List α) : ∀ (n j : Nat), j < n * z.length → ((List.replicate n z).flatten)[j]? = z[j % z.length]?
  | 0, j, h => by simp at h
  | n + 1, j, h => by
    rw [List.replicate_succ, List.flatten_cons]
    rw [Nat.add_mul, Nat.one_mul] at h
    by_cases hj : j < z.length
    · rw [List.getElem?_append_left hj, Nat.mod_eq_of_lt hj]
    · rw [List.getElem?_append_right (by omega), flat_rep z n (j - z.length) (by omega), ← Nat.mod_eq_sub_mod (by omega)]

/-- a new row of pure data in a new block -/
theorem loc_newrows {cx : Cx} {n0 : Nat} {ts : Nat → Option AV} {hs : Nat → Option Ob} {o : Oper} {t : TypeId} {sz : Nat} {rs : List (List D)} (hd : dstOk cx.n o.dst) (hsz : 0 < sz) (hrl : ∀ (k : Nat) (r : List D), rs[k]? = some r → r.length = sz) (hm : rs.length ≤ maxLen)
    (h : ∀ (H : Nat → Option Ob) (T : Nat → Option AV) (μ : Mu) (a : Act) (w : World), RR cx H T μ a w → (∀ y z, y ∈ o.op.operands → getT ts y = some z → Rep w (cx.Sta H μ w) μ z (a.eval y)) →
      ∃ (arr : Array Value) (w1 : World), (execOp a.eval o).run cx.P w = .ok (.value (.slice (some ⟨w.heap.size, 0, none⟩) rs.length rs.length)) w1 ∧ Ev w w1 (fun _ => False) ∧ w1.heap[w.heap.size]? = some (.cells arr t (0, 0)) ∧ arr.size = rs.length * sz ∧
        (∀ (k j : Nat) (r : List D) (x : D) (v : Value), rs[k]? = some r → r[j]? = some x → arr[k * sz + j]? = some v → RepD w (cx.Sta H μ w) x v)) :
    LocOp cx n0 ts hs o ⟨.row n0 sz 0 rs.length, [.rows t sz rs], [], []⟩ := by
  intro H T μ a w K Q hr hT hH hn hK
  obtain ⟨arr, w1, h1, hev, hb, h2, h3⟩ := h H T μ a w hr (fun y z hy hz => hr.eval (fun t ht => hT t (ht ▸ hy)) hz)
  unfold Oper.wp
  rw [h1]
  have hn0 : μ n0 = none := hn 0 (by simp)
  have hμ : ∀ i x, μ i = some x → setMu μ n0 (some w.heap.size) i = some x := by
    intro i x hx
    have : i ≠ n0 := by rintro rfl; rw [hn0] at hx; cases hx
    simp [setMu, this, hx]
  have key := hr.fresh hn0 (.rows t sz rs) (.row n0 sz 0 rs.length) [] hev (b := w.heap.size) ⟨Nat.le_refl _, heap_lt hb⟩
    (fun S' hS => .rows (by simp [setMu]) hb hsz (by omega) hrl (fun k j r x v hr hx hv => (h3 k j r x v hr hx hv).evolve hev (fun _ h => h.elim) hS))
  have hrow : Rep w1 (cx.Sta (appH n0 ⟨.row n0 sz 0 rs.length, [.rows t sz rs], [], []⟩ H) (setMu μ n0 (some w.heap.size)) w1) (setMu μ n0 (some w.heap.size)) (.row n0 sz 0 rs.length) (.slice (some ⟨w.heap.size, 0, none⟩) rs.length rs.length) := by
    have := Rep.row (w := w1) (S := cx.Sta (appH n0 ⟨.row n0 sz 0 rs.length, [.rows t sz rs], [], []⟩ H) (setMu μ n0 (some w.heap.size)) w1) (μ := setMu μ n0 (some w.heap.size)) (i := n0) (sz := sz) (o := 0) (len := rs.length) (b := w.heap.size) (c := rs.length) (by simp [setMu]) hb (Nat.le_refl _) hm (by rw [h2]; simp)
    simpa using this
  refine hK _ _ _ (key.2.putD hd hrow) hμ (fun i hi => ?_)
  by_cases hin : i = n0
  · subst hin; exact .inr (by simp)
  · simp [setMu, hin] at hi; exact .inl hi

def bsV (P : Program) (t : TypeId) (len : Nat) (ps : List (Nat × AV)) (K : Ob → Nat → Prop) : Prop :=
  (TL P t).ok = true ∧ ∃ e, (TL P t).selem = some e ∧ 0 < (TL P e).size ∧ len * (TL P e).size ≤ 16777216 ∧ ∃ z, (TL P e).zero = some z ∧ z.length = (TL P e).size ∧
    ∃ cs, fillA (fun i => some (i * (TL P e).size, (TL P e).size)) ((List.replicate len z).flatten) ps = some cs ∧ ∃ ds, cs.mapM toD = some ds ∧ K (.rows e (TL P e).size (chunks (TL P e).size len ds)) (TL P e).size

theorem fillA_len {pl : Nat → Option (Nat × Nat)} : ∀ {ps : List (Nat × AV)} {cs cs' : List AV}, fillA pl cs ps = some cs' → cs'.length = cs.length
  | [], cs, cs', h => by simp [fillA] at h; rw [h]
  | (i, x) :: ps, cs, cs', h => by
    simp only [fillA] at h
    split at h
    · split at h
      · rename_i hc; rw [fillA_len h, splice_length _ _ _ hc.2]
      · cases h
    · cases h

theorem loc_buildSlice {cx : Cx} {n0 : Nat} {ts : Nat → Option AV} {hs : Nat → Option Ob} {o : Oper} {t : TypeId} {len : Nat} {parts : Array (Nat × Operand)} {ps : List (Nat × AV)} {K : Eff → Prop} (hd : dstOk cx.n o.dst) (ho : o.op = .buildSlice t len parts)
    (hp : getP ts parts.toList = some ps) (h : bsV cx.P t len ps fun ob sz => K ⟨.row n0 sz 0 len, [ob], [], []⟩) : ∃ e, LocOp cx n0 ts hs o e ∧ K e := by
  obtain ⟨hok, e, hse, hsz, hmax, z, hz, hzl, cs, hf, ds, hds, hK⟩ := h
  have hu := TL_selem hok hse
  obtain ⟨i, zv, h1, h2, h3, hsi, _, h4, h5⟩ := TL_zero hz
  obtain ⟨gl, gg⟩ := getP_get hp
  have hcl := fillA_len hf
  have hcl2 : cs.length = len * (TL cx.P e).size := by rw [hcl]; simp [hzl]
  obtain ⟨dl, dg⟩ := mapM_get _ _ hds
  have hcl3 : ds.length = len * (TL cx.P e).size := by omega
  have hlen : len ≤ 16777216 := Nat.le_trans (by exact Nat.le_mul_of_pos_right len hsz) hmax
  have key := loc_newrows (cx := cx) (n0 := n0) (ts := ts) (hs := hs) (o := o) (t := e) (sz := (TL cx.P e).size) (rs := chunks (TL cx.P e).size len ds) hd hsz (fun k r hr => (chunks_get _ _ _ k r hcl3 hr).1) (by rw [chunks_len]; unfold maxLen; omega) ?_
  · rw [chunks_len] at key; exact ⟨_, key, hK⟩
  · intro H T μ a w hr he
    have hzs : zv.cells.size = (TL cx.P e).size := by omega
    obtain ⟨arr', h6, h7⟩ := fill_rep (w := w) (S := cx.Sta H μ w) (μ := μ) (pl := fun i => some (i * (TL cx.P e).size, (TL cx.P e).size)) (ps := ps) (qs := (parts.map fun (i, x) => (i, a.eval x)).toList) (cs := (List.replicate len z).flatten)
      (arr := (Array.range (len * (TL cx.P e).size)).map (zv.cells[· % zv.cells.size]!)) ⟨by simp [hzl], fun j x v hx hv => by
          have hj : j < len * (TL cx.P e).size := by
            have := (Array.getElem?_eq_some_iff.1 hv).1; simpa using this
          rw [flat_rep z len j (by rw [hzl]; exact hj)] at hx
          have hm : j % zv.cells.size < zv.cells.size := Nat.mod_lt _ (by omega)
          refine h4 _ _ _ (j % z.length) x v hx ?_
          simp [hj] at hv
          have e1 : z.length = zv.cells.size := by omega
          rw [e1, ← hv]
          simp [hm], fun v hv => by
          simp at hv
          obtain ⟨q, hq, rfl⟩ := hv
          have hm : q % zv.cells.size < zv.cells.size := Nat.mod_lt _ (by omega)
          simp [hm]
          exact h5 _ (by simp)⟩ (by simp; simp at gl; omega) (by
      intro j i1 i2 x v hx hv
      simp only [Array.toList_map, List.getElem?_map] at hv
      cases hq : parts.toList[j]? with
      | none => simp [hq] at hv
      | some q =>
        obtain ⟨i3, y⟩ := q
        simp [hq] at hv
        obtain ⟨rfl, rfl⟩ := hv
        obtain ⟨rfl, hg⟩ := gg j i3 i1 y x hq hx
        refine ⟨rfl, he y x ?_ hg⟩
        simp only [Op.operands, ho]
        have hm : (i1, y) ∈ parts.toList := List.mem_of_getElem? hq
        simp only [List.mem_toArray, List.mem_map]
        exact ⟨_, hm, rfl⟩) hf
    refine ⟨arr', w.alloc (.cells arr' e), ?_, Ev.alloc w _, alloc_new w _, by rw [chunks_len, h7.1]; omega, ?_⟩
    · rw [chunks_len]
      simp only [execOp, ho]
      refine run_v ?_
      have hne : ¬ len * i.size = 0 ∨ len = 0 := by
        rcases Nat.eq_zero_or_pos len with h | h
        · exact .inr h
        · exact .inl (Nat.ne_of_gt (Nat.mul_pos h (by omega)))
      have hle : ¬ 16777216 < len * i.size := by rw [← hsi]; omega
      rw [hsi] at h6
      unfold Instr.buildSlice
      simp only [Sem.run_bind, run_underlying hu, Result.andThen_ok, sizeOf, typeInfo, run_program, h1, Sem.run_pure]
      rcases hne with hne | rfl
      · have h6' : Instr.fill (fun i_1 => some (i_1 * i.size, i.size)) (Array.map (fun x => zv.cells[x % zv.cells.size]!) (Array.range (len * i.size))) (List.map (fun x => (x.fst, a.eval x.snd)) parts.toList) = some arr' := by simpa using h6
        simp [hle, hne, zeroValue, typeInfo, h1, h2, newRow, newObj]
        rw [h6']; rfl
      · have h6' : Instr.fill (fun i_1 => some (i_1 * i.size, i.size)) #[] (List.map (fun x => (x.fst, a.eval x.snd)) parts.toList) = some arr' := by
          have e0 : (Array.map (fun x => zv.cells[x % zv.cells.size]!) (Array.range (0 * i.size))) = #[] := by simp [Array.range]
          rw [e0] at h6; simpa using h6
        have e1 : (Array.map (fun _ => (default : Value)) (Array.range 0)) = #[] := by simp [Array.range]
        simp [newRow, newObj]
        rw [e1, h6']; rfl
    · intro k j r x v hr' hx hv
      obtain ⟨u1, u2⟩ := chunks_get _ _ _ k r hcl3 hr'
      have hj : j < (TL cx.P e).size := by rw [← u1]; exact (List.getElem?_eq_some_iff.1 hx).1
      rw [u2 j hj] at hx
      have hlt : k * (TL cx.P e).size + j < cs.length := by
        have := (List.getElem?_eq_some_iff.1 hx).1; omega
      exact toD_rep (dg _ _ x (List.getElem?_eq_getElem hlt) hx) (h7.2.1 _ _ v (List.getElem?_eq_getElem hlt) hv)

/-! ### make -/
def mkV (P : Program) (t : TypeId) (l c : AV) (K : Ob → Nat → Nat → Prop) : Prop :=
  match l, c with
  | .d (.int _ a), .d (.int _ b) => a = b ∧ (TL P t).ok = true ∧ ∃ e, (TL P t).selem = some e ∧ 0 < (TL P e).size ∧ ∃ z, (TL P e).zero = some z ∧ z.length = (TL P e).size ∧ ∃ zr, z.mapM toD = some zr ∧ 0 ≤ a ∧ a ≤ 1000000000 ∧ (TL P e).bytes ≤ 100000 ∧
      K (.rows e (TL P e).size (List.replicate a.toNat zr)) (TL P e).size a.toNat
  | _, _ => False

theorem loc_makeSlice {cx : Cx} {n0 : Nat} {ts : Nat → Option AV} {hs : Nat → Option Ob} {o : Oper} {t : TypeId} {y y' : Operand} {l c : AV} {K : Eff → Prop} (hd : dstOk cx.n o.dst) (ho : o.op = .makeSlice t y y')
    (hy : getT ts y = some l) (hy' : getT ts y' = some c) (h : mkV cx.P t l c fun ob sz n => K ⟨.row n0 sz 0 n, [ob], [], []⟩) : ∃ e, LocOp cx n0 ts hs o e ∧ K e := by
  unfold mkV at h
  split at h
  · rename_i k a k' b
    obtain ⟨rfl, hok, e, hse, hsz, z, hz, hzl, zr, hzr, h0, hmax, hby, hK⟩ := h
    have hu := TL_selem hok hse
    obtain ⟨i, zv, h1, h2, h3, hsi, hoke, h4, h5⟩ := TL_zero hz
    obtain ⟨dl, dg⟩ := mapM_get _ _ hzr
    obtain ⟨i', _, h1', _, _, _, hbi⟩ := TL_ok hoke
    rw [h1] at h1'; injection h1' with h1'; subst h1'
    have hzs : zv.cells.size = (TL cx.P e).size := by omega
    obtain ⟨n, rfl⟩ := Int.eq_ofNat_of_zero_le h0
    have key := loc_newrows (cx := cx) (n0 := n0) (ts := ts) (hs := hs) (o := o) (t := e) (sz := (TL cx.P e).size) (rs := List.replicate n zr) hd hsz (fun k r hr => by
        obtain ⟨_, rfl⟩ := List.getElem?_eq_some_iff.1 hr; simp; omega) (by simp [maxLen]; omega) ?_
    · simp only [List.length_replicate] at key; exact ⟨_, key, by simpa using hK⟩
    · intro H T μ a w hr he
      have e1 := he y _ (by simp [Op.operands, ho]) hy
      have e2 := he y' _ (by simp [Op.operands, ho]) hy'
      generalize hv1 : a.eval y = v1 at e1
      generalize hv2 : a.eval y' = v2 at e2
      cases e1 with | d e1 => cases e1; cases e2 with | d e2 =>
        cases e2
        obtain ⟨w1, hrun, hown, hg⟩ := run_make_full (P := cx.P) w 0 t e i zv (TL cx.P e).size hu h1 h2 hsi.symm k k' n (by
          have : i.bytes * n ≤ 100000 * 1000000000 := Nat.mul_le_mul (by omega) (by omega)
          omega) (by simp [maxLen]; omega) (Nat.zero_le _)
        obtain ⟨o1, o2⟩ := hown
        rcases o2 with ⟨o2, _⟩ | ⟨g, cap, cur, o2, o3, o4, o5, o6, o7, o8⟩
        · cases o2
        · simp only [Value.slice.injEq, Option.some.injEq, Addr.mk.injEq, and_true, true_and] at o2
          obtain ⟨rfl, rfl⟩ := o2
          refine ⟨cur, w1, ?_, ⟨hg.os, hg.tape, hg.output, hg.size, fun b hb _ => hg.block b hb (by simp), fun _ _ _ _ h => h.elim⟩, o4, by simp [o7], ?_⟩
          · simp only [execOp, ho, hv1, hv2, List.length_replicate]
            exact run_v hrun
          · intro k j r x v hr' hx hv
            have hk : k < n := by have := (List.getElem?_eq_some_iff.1 hr').1; simpa using this
            have : r = zr := by simp [List.getElem?_replicate, hk] at hr'; exact hr'.symm
            subst this
            have hj : j < (TL cx.P e).size := by have := (List.getElem?_eq_some_iff.1 hx).1; omega
            have hkn : (k + 1) * (TL cx.P e).size ≤ n * (TL cx.P e).size := Nat.mul_le_mul_right _ hk
            rw [Nat.add_mul, Nat.one_mul] at hkn
            have hcur : cur.toList = (madeCells zv.cells (n * (TL cx.P e).size)).toList := by
              rw [← o8, List.take_of_length_le (by simp [o7])]
            have hv' : cur.toList[k * (TL cx.P e).size + j]? = some v := by simpa using hv
            rw [hcur] at hv'
            have hm : (k * (TL cx.P e).size + j) % zv.cells.size = j := by
              rw [hzs, Nat.add_comm, Nat.add_mul_mod_self_right, Nat.mod_eq_of_lt hj]
            have hj' : j < zv.cells.size := by omega
            have hlt : k * (TL cx.P e).size + j < n * (TL cx.P e).size := by omega
            simp [madeCells, hlt, hm, hj'] at hv'
            have hjz : j < z.length := by omega
            exact toD_rep (dg j z[j] x (List.getElem?_eq_getElem hjz) hx) (h4 w (cx.Sta H μ w) μ j z[j] v (List.getElem?_eq_getElem hjz) (by simp [hj', hv']))
  · exact h.elim
end Go.Proofs.Ytdfolpfibhfmlaa

/- Engine, part I: slicing and append. -/
namespace Go.Proofs.Ytdfolpfibhfmlaa
set_option linter.unusedSimpArgs false
set_option linter.unusedVariables false
open Go.RowKit

/-! ### slicing -/
def optI (ts : Nat → Option AV) (x : Option Operand) (dflt : Int) (K : Int → Prop) : Prop :=
  match x with
  | none => K dflt
  | some y => match getT ts y with
    | some (.d (.int _ n)) => K n
    | _ => False

def sliV (P : Program) (t : TypeId) (x : AV) (ts : Nat → Option AV) (lo hi : Option Operand) (K : AV → Prop) : Prop :=
  (TL P t).ok = true ∧
  match (TL P t).selem with
  | some e => (TL P e).ok = true ∧
    (match x with
      | .d (.sl rows) => optI ts lo 0 fun l => optI ts hi rows.length fun h => 0 ≤ l ∧ l ≤ h ∧ h ≤ rows.length ∧ (∀ r ∈ rows, r.length = (TL P e).size) ∧ K (.d (.sl ((rows.drop l.toNat).take (h.toNat - l.toNat))))
      | .row i sz o len => (match lo with
        | none => optI ts hi len fun h => 0 ≤ h ∧ h ≤ len ∧ K (.row i sz o h.toNat)
        | some _ => optI ts lo 0 fun l => optI ts hi len fun h => sz = (TL P e).size ∧ 0 ≤ l ∧ l ≤ h ∧ h ≤ len ∧ K (.sub i sz (o + l.toNat) (h.toNat - l.toNat)))
      | .sub i sz o len => optI ts lo 0 fun l => optI ts hi len fun h => sz = (TL P e).size ∧ 0 ≤ l ∧ l ≤ h ∧ h ≤ len ∧ K (.sub i sz (o + l.toNat) (h.toNat - l.toNat))
      | .nil => optI ts lo 0 fun l => optI ts hi 0 fun h => l = 0 ∧ h = 0 ∧ K .nil
      | _ => False)
  | none => match (TL P t).aelem with
    | some (m, e) => (TL P e).ok = true ∧ (match x with
      | .ep i sz 0 0 => sz = (TL P e).size ∧ lo = none ∧ hi = none ∧ m ≤ maxLen ∧ K (.sub i sz 0 m)
      | .ptr i 0 => lo = none ∧ hi = none ∧ m ≤ maxLen ∧ K (.sub i (TL P e).size 0 m)
      | _ => False)
    | none => False

/-- what the bounds' operands read as, in every world -/
def OptOk (a : Act) (x : Option Operand) (dflt n : Int) : Prop :=
  match x with
  | none => n = dflt
  | some y => ∃ k, a.eval y = .int k n

theorem optI_ok {cx : Cx} {o : Oper} {ts : Nat → Option AV} {x : Option Operand} {dflt : Int} {K : Int → Prop} (h : optI ts x dflt K) (hm : ∀ y, x = some y → y ∈ o.op.operands) :
    ∃ n, K n ∧ ∀ (H : Nat → Option Ob) (μ : Mu) (a : Act) (w : World), (∀ y z, y ∈ o.op.operands → getT ts y = some z → Rep w (cx.Sta H μ w) μ z (a.eval y)) → OptOk a x dflt n := by
  cases x with
  | none => exact ⟨dflt, h, fun _ _ _ _ _ => rfl⟩
  | some y =>
    simp only [optI] at h
    split at h
    · rename_i k n hg
      refine ⟨n, h, fun H μ a w he => ?_⟩
      have := he y _ (hm y rfl) hg
      generalize hv : a.eval y = v at this
      cases this with | d this => cases this; exact ⟨k, hv⟩
    · exact h.elim

theorem run_sliceB {P : Program} (w : World) (a : Act) (lo hi : Option Operand) (l h : Int) (len cap : Nat) (hl : OptOk a lo 0 l) (hh : OptOk a hi len h) (h0 : 0 ≤ l) (h1 : l ≤ h) (h2 : h ≤ len) (hc : len ≤ cap) :
    (Instr.sliceBounds true len cap (lo.map a.eval) (hi.map a.eval) none).run P w = .ok (l.toNat, h.toNat, cap) w := by
  have sb : ∀ (k : IntKind) (i : Int) (y : Nat) (code : BoundsCode), 0 ≤ i → i ≤ y → (Instr.sliceBound (.int k i) y code).run P w = .ok i.toNat w := fun k i y code a b => run_sliceBound w k i y code a b
  unfold Instr.sliceBounds
  cases lo with
  | none =>
    simp only [OptOk] at hl; subst hl
    cases hi with
    | none => simp only [OptOk] at hh; subst hh; simp
    | some y => obtain ⟨k, hk⟩ := hh; simp [hk, sb k h cap _ (by omega) (by omega)]
  | some x =>
    obtain ⟨k', hk'⟩ := hl
    cases hi with
    | none => simp only [OptOk] at hh; subst hh; simp [hk', sb k' l len _ h0 h1]
    | some y =>
      obtain ⟨k, hk⟩ := hh
      have : l ≤ (h.toNat : Int) := by omega
      simp [hk, hk', sb k h cap _ (by omega) (by omega), sb k' l h.toNat _ h0 this]

theorem run_sliceS {P : Program} (w : World) (t e : TypeId) (i : TypeInfo) (hu : P.underlying t = some (.slice e)) (hi : P.info? e = some i) (A : Option Addr) (len cap : Nat) (a : Act) (lo hi' : Option Operand) (l h : Int)
    (hl : OptOk a lo 0 l) (hh : OptOk a hi' len h) (h0 : 0 ≤ l) (h1 : l ≤ h) (h2 : h ≤ len) (hc : len ≤ cap) :
    (Instr.sliceAt t (.slice A len cap) (lo.map a.eval) (hi'.map a.eval) (none : Option Value)).run P w = .ok (.slice (if cap = l.toNat then A else A.map (·.add (l.toNat * i.size))) (h.toNat - l.toNat) (cap - l.toNat)) w := by
  have hb := run_sliceB (P := P) w a lo hi' l h len cap hl hh h0 h1 h2 hc
  simp [Instr.sliceAt, run_underlying hu, Instr.slice, hb, sizeOf, typeInfo, hi]

theorem RepD.sub {w : World} {S : Nat → Prop} {rows : List (List D)} {A : Option Addr} {c l n sz : Nat} (h : RepD w S (.sl rows) (.slice A rows.length c)) (hsz : ∀ r ∈ rows, r.length = sz) (hln : l + n ≤ rows.length) :
    RepD w S (.sl ((rows.drop l).take n)) (.slice (if c = l then A else A.map (·.add (l * sz))) n (c - l)) := by
  rcases Nat.eq_zero_or_pos n with rfl | hn
  · simpa using RepD.nil
  · generalize hv : Value.slice A rows.length c = v at h
    cases h with
    | nil => simp at hln; omega
    | sl f hS hc hs2 hcell hrep =>
      rename_i b off c' sz'
      simp only [Value.slice.injEq] at hv
      obtain ⟨rfl, _, rfl⟩ := hv
      have hne : rows ≠ [] := by rintro rfl; simp at hln; omega
      have e : sz' = sz := by
        have h0 : 0 < rows.length := by omega
        have := hs2 0 rows[0] (List.getElem?_eq_getElem h0)
        rw [← this]; exact hsz _ (List.getElem_mem h0)
      subst e
      have hcl : ¬ c = l := by omega
      have hlen : ((rows.drop l).take n).length = n := by simp; omega
      have get : ∀ (p : Nat) (r : List D), ((rows.drop l).take n)[p]? = some r → rows[l + p]? = some r := by
        intro p r hp
        rw [List.getElem?_take] at hp
        split at hp
        · rwa [List.getElem?_drop] at hp
        · cases hp
      rw [if_neg hcl]
      simp only [Option.map_some, Addr_add]
      have := RepD.sl (w := w) (S := S) (rows := (rows.drop l).take n) (b := b) (off := off + l * sz') (c := c - l) (sz := sz') (fun p j => f (l + p) j) hS (by omega) (fun p r hp => hs2 _ r (get p r hp))
        (fun p j r x hp hj => by
          have := hcell (l + p) j r x (get p r hp) hj
          rw [Nat.add_mul] at this
          have e : off + l * sz' + p * sz' + j = off + (l * sz' + p * sz') + j := by omega
          rw [e]; exact this)
        (fun p j r x hp hj => hrep (l + p) j r x (get p r hp) hj)
      rw [hlen] at this
      exact this

theorem loc_slice {cx : Cx} {n0 : Nat} {ts : Nat → Option AV} {hs : Nat → Option Ob} {o : Oper} {t : TypeId} {y : Operand} {lo hi : Option Operand} {x : AV} {K : Eff → Prop} (hd : dstOk cx.n o.dst) (ho : o.op = .slice t y lo hi none) (hy : getT ts y = some x)
    (h : sliV cx.P t x ts lo hi fun x => K ⟨x, [], [], []⟩) : ∃ e, LocOp cx n0 ts hs o e ∧ K e := by
  obtain ⟨hok, h⟩ := h
  have hmy : y ∈ o.op.operands := by simp [Op.operands, ho]
  have hml : ∀ q, lo = some q → q ∈ o.op.operands := by rintro q rfl; simp [Op.operands, ho]
  have hmh : ∀ q, hi = some q → q ∈ o.op.operands := by rintro q rfl; simp [Op.operands, ho]
  cases hse : (TL cx.P t).selem with
  | some e =>
    simp only [hse] at h
    obtain ⟨heok, h⟩ := h
    have hu := TL_selem hok hse
    obtain ⟨i, _, h1, _, hsz, _⟩ := TL_ok heok
    cases x with
    | d x =>
      cases x with
      | sl rows =>
        simp only at h
        obtain ⟨l, h, hl⟩ := optI_ok (cx := cx) h hml
        obtain ⟨hh, h, hh'⟩ := optI_ok (cx := cx) h hmh
        obtain ⟨a0, a1, a2, a3, hK⟩ := h
        refine ⟨_, loc_val hd fun H T μ a w hr he _ => ?_, hK⟩
        have e1 := he y _ hmy hy
        generalize hv : a.eval y = v at e1
        cases e1 with
        | d e1 =>
          have hform : ∃ A c, v = .slice A rows.length c ∧ rows.length ≤ c := by
            cases e1 with
            | nil => exact ⟨_, _, rfl, by simp⟩
            | sl _ _ hc _ _ _ => exact ⟨_, _, rfl, hc⟩
          obtain ⟨A, c, rfl, hc⟩ := hform
          refine ⟨_, ?_, .d (RepD.sub (sz := (TL cx.P e).size) (l := l.toNat) (n := hh.toNat - l.toNat) e1 a3 (by omega))⟩
          simp only [execOp, ho, hv, hsz]
          exact run_v (run_sliceS w t e i hu h1 A rows.length c a lo hi l hh (hl H μ a w he) (hh' H μ a w he) a0 a1 a2 hc)
      | _ => exact h.elim
    | row j sz o' len =>
      simp only at h
      cases lo with
      | none =>
        simp only at h
        obtain ⟨hh, h, hh'⟩ := optI_ok (cx := cx) h hmh
        obtain ⟨a0, a1, hK⟩ := h
        refine ⟨_, loc_val hd fun H T μ a w hr he _ => ?_, hK⟩
        have e1 := he y _ hmy hy
        generalize hv : a.eval y = v at e1
        cases e1 with
        | rowNil hb =>
          have e2 : hh.toNat = 0 := by omega
          rw [e2]
          refine ⟨.slice none 0 0, ?_, .rowNil hb⟩
          simp only [execOp, ho, hv]
          have := run_sliceS w t e i hu h1 none 0 0 a none hi 0 hh rfl (hh' H μ a w he) (Int.le_refl _) a0 (by omega) (Nat.le_refl _)
          simp [e2] at this
          exact run_v this
        | row hb h2 h3 h4 h5 =>
          rename_i b c arr tt
          refine ⟨.slice (some ⟨b, o' * sz, none⟩) hh.toNat c, ?_, .row hb h2 (by omega) h4 h5⟩
          simp only [execOp, ho, hv]
          have := run_sliceS w t e i hu h1 (some ⟨b, o' * sz, none⟩) len c a none hi 0 hh rfl (hh' H μ a w he) (Int.le_refl _) a0 a1 h3
          simp [Addr_add] at this
          exact run_v this
      | some lo =>
        simp only at h
        obtain ⟨l, h, hl⟩ := optI_ok (cx := cx) h hml
        obtain ⟨hh, h, hh'⟩ := optI_ok (cx := cx) h hmh
        obtain ⟨e3, a0, a1, a2, hK⟩ := h
        refine ⟨_, loc_val hd fun H T μ a w hr he _ => ?_, hK⟩
        have e1 := he y _ hmy hy
        generalize hv : a.eval y = v at e1
        cases e1 with
        | rowNil hb =>
          have e2 : hh.toNat - l.toNat = 0 := by omega
          have := run_sliceS w t e i hu h1 none 0 0 a (some lo) hi l hh (hl H μ a w he) (hh' H μ a w he) a0 a1 a2 (Nat.le_refl _)
          rw [e2] at this ⊢
          exact ⟨_, by simp only [execOp, ho, hv]; exact run_v this, .subNil⟩
        | row hb h2 h3 h4 h5 =>
          rename_i b c arr tt
          have hrun := run_sliceS w t e i hu h1 (some ⟨b, o' * sz, none⟩) len c a (some lo) hi l hh (hl H μ a w he) (hh' H μ a w he) a0 a1 a2 h3
          rcases Nat.eq_zero_or_pos (hh.toNat - l.toNat) with e2 | e2
          · rw [e2] at hrun ⊢
            exact ⟨_, by simp only [execOp, ho, hv]; exact run_v hrun, .subNil⟩
          · rw [if_neg (by omega)] at hrun
            simp only [Option.map_some, Addr_add] at hrun
            refine ⟨_, by simp only [execOp, ho, hv]; exact run_v hrun, ?_⟩
            have e4 : o' * sz + l.toNat * i.size = (o' + l.toNat) * sz := by rw [Nat.add_mul, e3, hsz]
            rw [e4]
            exact .sub hb (by omega) (by omega)
    | sub j sz o' len =>
      simp only at h
      obtain ⟨l, h, hl⟩ := optI_ok (cx := cx) h hml
      obtain ⟨hh, h, hh'⟩ := optI_ok (cx := cx) h hmh
      obtain ⟨e3, a0, a1, a2, hK⟩ := h
      refine ⟨_, loc_val hd fun H T μ a w hr he _ => ?_, hK⟩
      have e1 := he y _ hmy hy
      generalize hv : a.eval y = v at e1
      cases e1 with
      | @subNil _ _ _ A c =>
        have e2 : hh.toNat - l.toNat = 0 := by omega
        have := run_sliceS w t e i hu h1 A 0 c a lo hi l hh (hl H μ a w he) (hh' H μ a w he) a0 a1 a2 (Nat.zero_le _)
        rw [e2] at this ⊢
        exact ⟨_, by simp only [execOp, ho, hv]; exact run_v this, .subNil⟩
      | sub hb h3 h4 =>
        rename_i b c
        have hrun := run_sliceS w t e i hu h1 (some ⟨b, o' * sz, none⟩) len c a lo hi l hh (hl H μ a w he) (hh' H μ a w he) a0 a1 a2 h3
        rcases Nat.eq_zero_or_pos (hh.toNat - l.toNat) with e2 | e2
        · rw [e2] at hrun ⊢
          exact ⟨_, by simp only [execOp, ho, hv]; exact run_v hrun, .subNil⟩
        · rw [if_neg (by omega)] at hrun
          simp only [Option.map_some, Addr_add] at hrun
          refine ⟨_, by simp only [execOp, ho, hv]; exact run_v hrun, ?_⟩
          have e4 : o' * sz + l.toNat * i.size = (o' + l.toNat) * sz := by rw [Nat.add_mul, e3, hsz]
          rw [e4]
          exact .sub hb (by omega) (by omega)
    | nil =>
      simp only at h
      obtain ⟨l, h, hl⟩ := optI_ok (cx := cx) h hml
      obtain ⟨hh, h, hh'⟩ := optI_ok (cx := cx) h hmh
      obtain ⟨rfl, rfl, hK⟩ := h
      refine ⟨_, loc_val hd fun H T μ a w hr he _ => ?_, hK⟩
      have e1 := he y _ hmy hy
      generalize hv : a.eval y = v at e1
      cases e1 with
      | nil =>
        refine ⟨.slice none 0 0, ?_, .nil⟩
        simp only [execOp, ho, hv]
        have := run_sliceS w t e i hu h1 none 0 0 a lo hi 0 0 (hl H μ a w he) (by simpa using hh' H μ a w he) (Int.le_refl _) (Int.le_refl _) (by omega) (Nat.le_refl _)
        simp at this
        exact run_v this
    | _ => exact h.elim
  | none =>
    simp only [hse] at h
    cases hae : (TL cx.P t).aelem with
    | none => simp [hae] at h
    | some me =>
      obtain ⟨m, e⟩ := me
      simp only [hae] at h
      obtain ⟨heok, h⟩ := h
      have hu := TL_aelem hok hae
      obtain ⟨i, _, h1, _, hsz, _⟩ := TL_ok heok
      cases x with
      | ep j sz idx q =>
        cases idx with
        | succ _ => exact h.elim
        | zero =>
          cases q with
          | succ _ => exact h.elim
          | zero =>
            obtain ⟨e3, rfl, rfl, hm, hK⟩ := h
            refine ⟨_, loc_val hd fun H T μ a w hr he _ => ?_, hK⟩
            have e1 := he y _ hmy hy
            generalize hv : a.eval y = v at e1
            cases e1 with
            | ep hb =>
              rename_i b
              have := Rep.sub (w := w) (S := cx.Sta H μ w) (μ := μ) (i := j) (sz := sz) (o := 0) (len := m) (c := m) hb (Nat.le_refl _) hm
              refine ⟨_, ?_, this⟩
              simp only [execOp, ho, hv]
              refine run_v ?_
              simp [Instr.sliceAt, run_underlying hu, Instr.sureAddr, Instr.sliceBounds, sizeOf, typeInfo, h1, Addr.add]
      | ptr j q =>
        cases q with
        | succ _ => exact h.elim
        | zero =>
          obtain ⟨rfl, rfl, hm, hK⟩ := h
          refine ⟨_, loc_val hd fun H T μ a w hr he _ => ?_, hK⟩
          have e1 := he y _ hmy hy
          generalize hv : a.eval y = v at e1
          cases e1 with
          | ptr hb =>
            rename_i b
            have := Rep.sub (w := w) (S := cx.Sta H μ w) (μ := μ) (i := j) (sz := (TL cx.P e).size) (o := 0) (len := m) (c := m) hb (Nat.le_refl _) hm
            refine ⟨_, ?_, this⟩
            simp only [execOp, ho, hv]
            refine run_v ?_
            simp [Instr.sliceAt, run_underlying hu, Instr.sureAddr, Instr.sliceBounds, sizeOf, typeInfo, h1, Addr.add]
      | _ => exact h.elim
end Go.Proofs.Ytdfolpfibhfmlaa
