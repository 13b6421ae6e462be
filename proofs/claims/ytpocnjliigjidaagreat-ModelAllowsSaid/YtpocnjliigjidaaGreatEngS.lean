import Derived.Test.YtpocnjliigjidaaGreatFlM
/- Strings that are known, and maps keyed by numbers, as operations of the engine. -/
namespace Go.Proofs.YtpocnjliigjidaaGreat
open Go.RowKit Go.ChangeMaps
set_option maxRecDepth 100000
set_option linter.unusedSimpArgs false
set_option linter.unusedVariables false
theorem ext_sindex {P : Program} {n : Nat} {o : Oper} {σ : St} {K : Eff → Prop} {t : TypeId} {y z : Operand} {s : ByteArray} {kk : IntKind} {i : Int} {b : UInt8} (ho : o.op = .index t y z) (hd : dstOk n o.dst) (hu : P.underlying t = some .string)
    (hy : getT σ.T y = some (.d (.str s))) (hz : getT σ.T z = some (.d (.int kk i))) (h0 : 0 ≤ i) (hb : s[i.toNat]? = some b) (h : K ⟨.d (.int .u8 (b.toNat : Int)), [], [], []⟩) : extV P n o σ K := by
  refine ⟨_, fun cx hP hcn => ?_, h⟩
  subst hP hcn
  refine loc_val hd fun H T μ a w hr he _ => ?_
  have h5 := he y _ (by simp [Op.operands, ho]) hy
  have h6 := he z _ (by simp [Op.operands, ho]) hz
  generalize hv : a.eval y = v at h5
  generalize hv2 : a.eval z = v2 at h6
  cases h6 with
  | d h6 =>
  cases h6
  cases h5 with
  | d h5 =>
  cases h5
  refine ⟨.int .u8 (b.toNat : Int), ?_, .d .int⟩
  simp only [execOp, ho, hv, hv2]
  refine run_v ?_
  simp [Instr.index, run_underlying hu, asIntOf, h0, hb]
theorem ext_srange {P : Program} {n : Nat} {o : Oper} {σ : St} {K : Eff → Prop} {t : TypeId} {y : Operand} {s : ByteArray} (ho : o.op = .range t y) (hd : dstOk n o.dst) (hu : P.underlying t = some .string)
    (hy : getT σ.T y = some (.d (.str s))) (h : K ⟨.ptr σ.h.length 0, [.siter s 0], [], []⟩) : extV P n o σ K := by
  refine ⟨_, fun cx hP hcn => ?_, h⟩
  subst hP hcn
  intro H T μ a w K Q hr hT hH hn hK
  have hn0 : μ σ.h.length = none := hn 0 (by simp)
  have e1 := hr.eval (fun t ht => hT t (by simp [Op.operands, ho, ht])) hy
  generalize hpv : a.eval y = pv at e1
  cases e1 with
  | d e1 =>
  cases e1
  have hrun : (execOp a.eval o).run cx.P w = .ok (.value (.pointer (some ⟨w.heap.size, 0, none⟩))) (w.alloc (.stringIter s 0)) := by
    simp only [execOp, ho, hpv]
    refine run_v ?_
    unfold Instr.range
    simp only [Sem.run_bind, run_underlying hu, Result.andThen_ok]
    rfl
  unfold Oper.wp
  rw [hrun]
  have hμ : ∀ i x, μ i = some x → setMu μ σ.h.length (some w.heap.size) i = some x := by
    intro i x hx
    have : i ≠ σ.h.length := by rintro rfl; rw [hn0] at hx; cases hx
    simp [setMu, this, hx]
  have key := hr.fresh hn0 (.siter s 0) (.ptr σ.h.length 0) [] (Ev.alloc w (.stringIter s 0)) (b := w.heap.size) (by rw [alloc_size]; omega)
    (fun S' hS => .siter (by simp [setMu]) (alloc_new w _))
  refine hK _ _ _ (key.2.putD hd (.ptr (by simp [setMu]))) hμ (fun i hi => ?_)
  by_cases hin : i = σ.h.length
  · subst hin; exact .inr (by simp)
  · simp [setMu, hin] at hi; exact .inl hi
theorem gobj {P : Program} {w : World} {r : Nat} {s : ByteArray} {p : Nat} (hb : w.heap[r]? = some (.stringIter s p)) : (getObj r).run P w = .ok (.stringIter s p) w := by simp [getObj, Sem.run, hb]
theorem sobj {P : Program} {w : World} {r : Nat} {o : Obj} (o' : Obj) (hb : w.heap[r]? = some o) (hc : ∀ arr t z, o ≠ .cells arr t z) : (setObj r o').run P w = .ok () (setBlock w r o') := by
  cases o with
  | cells a t z => exact absurd rfl (hc a t z)
  | _ => simp [setObj, Sem.run, hb, ChangeMaps.setBlock]
theorem ext_snext {P : Program} {n : Nat} {o : Oper} {σ : St} {K : Eff → Prop} {r : Operand} {j pos c wd : Nat} {s : ByteArray} (ho : o.op = .next r true) (hd : dstOk n o.dst) (hr : getT σ.T r = some (.ptr j 0)) (hj : σ.H j = some (.siter s pos))
    (hp : pos < s.size) (hc : Utf8.decode s pos = (c, wd)) (h : K ⟨.tup [.d (.bool true), .d (.int .i64 (pos : Int)), .d (.int .i32 (c : Int))], [], [(j, some (.siter s (pos + wd)))], [j]⟩) : extV P n o σ K := by
  refine ⟨_, fun cx hP hcn => ?_, h⟩
  subst hP hcn
  intro H T μ a w K Q hrr hT hH hn hk'
  have e1 := hrr.eval (fun t ht => hT t (by simp [Op.operands, ho, ht])) hr
  have hHj : H j = some (.siter s pos) := (hH j (by simp)).trans hj
  generalize hpv : a.eval r = pv at e1
  cases e1 with
  | ptr hb =>
    rename_i b
    cases hrr.ob j _ hHj with
    | siter b1 b2 =>
      rw [hb] at b1; injection b1 with b1; injection b1 with b1; subst b1
      have hrun : (Instr.next (.pointer (some ⟨b, 0, none⟩)) true o.type).run cx.P w = .ok (.tuple #[.bool true, .int .i64 (pos : Int), .int .i32 (c : Int)]) (setBlock w b (.stringIter s (pos + wd))) := by
        unfold Instr.next
        simp only [Sem.run_bind, gobj b2, Result.andThen_ok, if_pos hp, hc]
        simp only [Sem.run_bind, sobj _ b2 (by simp), Result.andThen_ok]
        rfl
      unfold Oper.wp
      simp only [execOp, ho, hpv]
      rw [run_v hrun]
      have key := hrr.write (by simp [hHj]) hb σ.h.length (.siter s (pos + wd)) (.tup [.d (.bool true), .d (.int .i64 (pos : Int)), .d (.int .i32 (c : Int))]) [j] (Ev.setBlock b2 (by simp)) (.siter hb (setBlock_at b2))
      refine hk' _ _ μ (key.putD hd (.tup rfl (fun q y v hy hv => ?_))) (fun _ _ h => h) (fun i h => .inl h)
      match q, hy, hv with
      | 0, hy, hv => simp at hy hv; subst hy hv; exact .d .bool
      | 1, hy, hv => simp at hy hv; subst hy hv; exact .d .int
      | 2, hy, hv => simp at hy hv; subst hy hv; exact .d .int
theorem ext_sover {P : Program} {n : Nat} {o : Oper} {σ : St} {K : Eff → Prop} {r : Operand} {j pos : Nat} {s : ByteArray} (ho : o.op = .next r true) (hd : dstOk n o.dst) (hr : getT σ.T r = some (.ptr j 0)) (hj : σ.H j = some (.siter s pos))
    (hp : ¬ pos < s.size) (h : K ⟨.tup [.d (.bool false)], [], [], [j]⟩) : extV P n o σ K := by
  refine ⟨_, fun cx hP hcn => ?_, h⟩
  subst hP hcn
  refine loc_val hd fun H T μ a w hr' he hH => ?_
  have e1 := he r _ (by simp [Op.operands, ho]) hr
  have hHj := (hH j (by simp)).trans hj
  generalize hpv : a.eval r = pv at e1
  cases e1 with
  | ptr hb =>
    rename_i b
    cases hr'.ob j _ hHj with
    | siter b1 b2 =>
      rw [hb] at b1; injection b1 with b1; injection b1 with b1; subst b1
      have hrun : (Instr.next (.pointer (some ⟨b, 0, none⟩)) true o.type).run cx.P w = .ok (.tuple #[.bool false]) w := by
        unfold Instr.next
        simp only [Sem.run_bind, gobj b2, Result.andThen_ok, if_neg hp]
        rfl
      refine ⟨_, by simp only [execOp, ho, hpv]; exact run_v hrun, .tup rfl (fun q y v hy hv => ?_)⟩
      match q, hy, hv with
      | 0, hy, hv => simp at hy hv; subst hy hv; exact .d .bool
structure Ie where
  k : Int
  v : Value
  b : Nat
def ieE (x : Ie) : MapEntry := { key := .int .i64 x.k, val := x.v, born := x.b }
abbrev imO (l : List Ie) (ck : Nat) : Ob := .map (l.map ieE) ck
def iIdx (k : Int) (l : List Ie) : Option Nat := l.findIdx? fun x => k == x.k
def iput (l : List Ie) (ck : Nat) (k : Int) (v : Value) : List Ie × Nat := match iIdx k l with
  | some i => (l.modify i fun x => ⟨k, v, x.b⟩, ck)
  | none => (l ++ [⟨k, v, ck⟩], ck + 1)
def iget (l : List Ie) (k : Int) : Option Value := (iIdx k l).bind fun j => (l[j]?).map (·.v)
theorem iIdx_lt {k : Int} {l : List Ie} {i : Nat} (h : iIdx k l = some i) : ∃ hl : i < l.length, l[i].k = k := by
  unfold iIdx at h
  obtain ⟨h1, h2, _⟩ := List.findIdx?_eq_some_iff_getElem.1 h
  exact ⟨h1, by simpa using (beq_iff_eq.1 h2).symm⟩
theorem run_ifind (k : Int) : ∀ (l : List Ie) (i : Nat), Instr.findNow (.int .i64) (.int .i64 k) (l.map ieE) i = some ((iIdx k l).bind fun j => (l[j]?).map fun x => (i + j, x.v))
  | [], i => by simp [Instr.findNow, iIdx]
  | x :: l, i => by
    have ih := run_ifind k l (i + 1)
    simp only [List.map_cons, Instr.findNow, show (ieE x).key = .int .i64 x.k from rfl, Instr.sameNow, if_true]
    by_cases h : k = x.k
    · rw [show (k == x.k) = true by simpa using h]
      simp [iIdx, List.findIdx?_cons, h, ieE]
    · have h1 : (k == x.k) = false := by simpa using h
      rw [h1]
      simp only [ih]
      unfold iIdx
      rw [List.findIdx?_cons, h1]
      cases hf : l.findIdx? (fun x => k == x.k) with
      | none => simp
      | some j => simp [Nat.add_assoc, Nat.add_comm 1 j]
theorem run_ikey (w : World) (k : Int) (l : List Ie) : (Instr.findKey 3 (.int .i64 k) (l.map ieE)).run Tryz.prog w = .ok ((iIdx k l).bind fun j => (l[j]?).map fun x => (j, x.v)) w := by
  have uS := Tryz.underlying3
  unfold Instr.findKey
  have h := run_ifind k l 0
  simp only [Nat.zero_add] at h
  simp only [Sem.run_bind, run_underlying uS, Result.andThen_ok, h]
  rfl
theorem run_ick (w : World) (em : Bool) (k : Int) : (Instr.checkKey em 10000 3 (.int .i64 k)).run Tryz.prog w = .ok () w := cki_int 9999 w em k
theorem run_iput (w : World) {tm e : TypeId} (hu : Tryz.prog.underlying tm = some (.map 3 e)) (b : Nat) (l : List Ie) (ck : Nat) (k : Int) (v : Value) (hb : w.heap[b]? = some (.map (l.map ieE).toArray ck)) :
    (Instr.mapUpdate tm (.map (some b)) (.int .i64 k) v).run Tryz.prog w = .ok () (setBlock w b (.map ((iput l ck k v).1.map ieE).toArray (iput l ck k v).2)) := by
  unfold Instr.mapUpdate
  simp only [Sem.run_bind, run_underlying hu, Result.andThen_ok, gmap hb, run_ick, run_ikey]
  cases hf : iIdx k l with
  | none =>
    simp only [Option.bind_none, iput, hf]
    rw [run_setMap _ hb]
    simp [ieE]
  | some i =>
    obtain ⟨hl, hk⟩ := iIdx_lt hf
    simp only [Option.bind_some, List.getElem?_eq_getElem hl, Option.map_some, iput, hf]
    have e1 : ((((l.map ieE).toArray[i]?).map (·.key)).getD (.int .i64 k)) = .int .i64 k := by simp [hl, ieE, hk]
    have e2 : (Instr.keyThatStays (.int .i64 k) (.int .i64 k)).run Tryz.prog w = .ok (.int .i64 k) w := by
      simp [Instr.keyThatStays, Instr.sameBits]
    simp only [Sem.run_bind, e1, e2, Result.andThen_ok]
    rw [run_setMap _ hb]
    have e3 : ((l.map ieE).toArray.modify i fun e => { e with key := .int .i64 k, val := v }) = ((l.modify i fun x => (⟨k, v, x.b⟩ : Ie)).map ieE).toArray := by
      apply Array.ext'
      simp only [Array.toList_modify]
      apply List.ext_getElem?
      intro q
      simp only [List.getElem?_modify, List.getElem?_map]
      cases hq : l[q]? with
      | none => simp
      | some y => by_cases hiq : i = q <;> simp [hiq, ieE]
    rw [e3]
def Only (x : AV) (v : Value) : Prop := ∀ (w : World) (S : Nat → Prop) (μ : Mu) (u : Value), Rep w S μ x u → u = v
theorem only_int (k : IntKind) (n : Int) : Only (.d (.int k n)) (.int k n) := fun w S μ u h => by cases h with | d h => cases h; rfl
theorem only_fn (f : FuncId) : Only (.fn f []) (.func (.func f) #[] #[]) := fun w S μ u h => by
  cases h with
  | fn h1 h2 =>
    rename_i vs
    have : vs = #[] := Array.eq_empty_of_size_eq_zero (by simpa using h1)
    subst this; rfl
theorem ext_iput {n : Nat} {o : Oper} {σ : St} {K : Eff → Prop} {m k x : Operand} {i ck : Nat} {l : List Ie} {tm e : TypeId} {q : Int} {y : AV} {v : Value} (ho : o.op = .mapUpdate tm m k x ∨ o.op = .insert tm m k x) (hd : o.dst = none) (hu : Tryz.prog.underlying tm = some (.map 3 e))
    (hm : getT σ.T m = some (.mp i)) (hk : getT σ.T k = some (.d (.int .i64 q))) (hx : getT σ.T x = some y) (hy : Only y v) (hi : σ.H i = some (imO l ck)) (h : K ⟨.any, [], [(i, some (imO (iput l ck q v).1 (iput l ck q v).2))], [i]⟩) : extV Tryz.prog n o σ K := by
  refine ⟨_, fun cx hP hcn => ?_, h⟩
  subst hcn
  intro H T μ a w K Q hr hT hH hn hk'
  have om : ∀ {y : Operand}, (y = m ∨ y = k ∨ y = x) → ∀ t, y = .tmp t → T t = σ.T t := by
    intro y hy t ht
    refine hT t ?_
    rcases ho with ho | ho <;> rcases hy with rfl | rfl | rfl <;> simp [Op.operands, ho, ht]
  have e1 := hr.eval (om (.inl rfl)) hm
  have e2 := hr.eval (om (.inr (.inl rfl))) hk
  have e3 := hy _ _ _ _ (hr.eval (om (.inr (.inr rfl))) hx)
  have hHi : H i = some (imO l ck) := (hH i (by simp)).trans hi
  have e2 := only_int _ _ _ _ _ _ e2
  generalize hpv : a.eval m = pv at e1
  cases e1 with
  | mp hb =>
    rename_i b
    cases hr.ob i _ hHi with
    | map b1 b2 =>
      rw [hb] at b1; injection b1 with b1; injection b1 with b1; subst b1
      have hrun := run_iput w hu b l ck q v b2
      unfold Oper.wp
      have hex : (execOp a.eval o).run cx.P w = .ok .skip (setBlock w b (.map ((iput l ck q v).1.map ieE).toArray (iput l ck q v).2)) := by
        rcases ho with ho | ho <;> (simp only [execOp, ho, hpv, e2, e3, hP]; exact run_u hrun)
      rw [hex]
      have key := hr.write (by simp [hHi]) hb σ.h.length (imO (iput l ck q v).1 (iput l ck q v).2) .any [i] (Ev.setBlock b2 (by simp)) (.map hb (setBlock_at b2))
      refine hk' _ _ μ ?_ (fun _ _ h => h) (fun i h => .inl h)
      have : appT o.dst AV.any T = T := by funext s; simp [appT, hd]
      rw [this, hd]; exact key
theorem ext_imake {n : Nat} {o : Oper} {σ : St} {K : Eff → Prop} {tm e : TypeId} (ho : o.op = .makeMap tm none) (hd : dstOk n o.dst) (hu : Tryz.prog.underlying tm = some (.map 3 e)) (h : K ⟨.mp σ.h.length, [imO [] 0], [], []⟩) : extV Tryz.prog n o σ K := by
  refine ⟨_, fun cx hP hcn => ?_, h⟩
  subst hcn
  intro H T μ a w K Q hr hT hH hn hK
  have hn0 : μ σ.h.length = none := hn 0 (by simp)
  have hrun : (execOp a.eval o).run cx.P w = .ok (.value (.map (some w.heap.size))) (w.alloc (.map #[] 0)) := by
    simp only [execOp, ho, Option.map_none, hP]
    refine run_v ?_
    unfold Instr.makeMap
    simp only [Sem.run_bind, run_underlying hu, Result.andThen_ok]
    rfl
  unfold Oper.wp
  rw [hrun]
  have hμ : ∀ i x, μ i = some x → setMu μ σ.h.length (some w.heap.size) i = some x := by
    intro i x hx
    have : i ≠ σ.h.length := by rintro rfl; rw [hn0] at hx; cases hx
    simp [setMu, this, hx]
  have key := hr.fresh hn0 (imO [] 0) (.mp σ.h.length) [] (Ev.alloc w (.map #[] 0)) (b := w.heap.size) (by rw [alloc_size]; omega)
    (fun S' hS => .map (by simp [setMu]) (alloc_new w _))
  refine hK _ _ _ (key.2.putD hd (.mp (by simp [setMu]))) hμ (fun i hi => ?_)
  by_cases hin : i = σ.h.length
  · subst hin; exact .inr (by simp)
  · simp [setMu, hin] at hi; exact .inl hi
theorem run_ilook (w : World) {tm e : TypeId} {z : Value} (hu : Tryz.prog.underlying tm = some (.map 3 e)) (hz : (zeroValue e).run Tryz.prog w = .ok z w) (b : Nat) (l : List Ie) (ck : Nat) (k : Int) (hb : w.heap[b]? = some (.map (l.map ieE).toArray ck)) (ok : Bool) :
    (Instr.lookup tm (.map (some b)) (.int .i64 k) ok).run Tryz.prog w = .ok (if ok then .tuple #[(iget l k).getD z, .bool (iget l k).isSome] else (iget l k).getD z) w := by
  unfold Instr.lookup
  simp only [Sem.run_bind, run_underlying hu, Result.andThen_ok, gmap hb, run_ick, run_ikey, Sem.run_pure, List.toList_toArray]
  unfold iget
  cases hf : iIdx k l with
  | none =>
    simp only [Option.bind_none, Sem.run_bind, Sem.run_pure, hz, Result.andThen_ok]
    cases ok <;> simp
  | some i =>
    obtain ⟨hl, hk⟩ := iIdx_lt hf
    cases ok <;> simp [List.getElem?_eq_getElem hl]
theorem ext_ilook {n : Nat} {o : Oper} {σ : St} {K : Eff → Prop} {m k : Operand} {i ck : Nat} {l : List Ie} {tm e : TypeId} {q : Int} {z : Value} (y : AV) (ho : o.op = .lookup tm m k false) (hd : dstOk n o.dst) (hu : Tryz.prog.underlying tm = some (.map 3 e)) (hz : ∀ w, (zeroValue e).run Tryz.prog w = .ok z w)
    (hm : getT σ.T m = some (.mp i)) (hk : getT σ.T k = some (.d (.int .i64 q))) (hi : σ.H i = some (imO l ck)) (hy : ∀ w S μ, Rep w S μ y ((iget l q).getD z)) (h : K ⟨y, [], [], [i]⟩) : extV Tryz.prog n o σ K := by
  refine ⟨_, fun cx hP hcn => ?_, h⟩
  subst hcn
  refine loc_val hd fun H T μ a w hr' he hH => ?_
  have e1 := he m _ (by simp [Op.operands, ho]) hm
  have e2 := only_int _ _ _ _ _ _ (he k _ (by simp [Op.operands, ho]) hk)
  have hHi := (hH i (by simp)).trans hi
  generalize hpv : a.eval m = pv at e1
  cases e1 with
  | mp hb =>
    rename_i b
    cases hr'.ob i _ hHi with
    | map c1 c2 =>
      rw [hb] at c1; injection c1 with c1; injection c1 with c1; subst c1
      have hrun := run_ilook w hu (hz w) b l ck q c2 false
      exact ⟨_, by simp only [execOp, ho, hpv, e2, hP]; exact run_v hrun, hy _ _ _⟩
end Go.Proofs.YtpocnjliigjidaaGreat
