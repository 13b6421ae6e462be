import Derived.Test.YtpocnjliigjidaaGreatEngZ
import Derived.Test.YtpocnjliigjidaaGreatFlQ
import Derived.Maps.RangeRun
/- Maps whose keys are words of pages: their operations, by the engine. -/
namespace Go.Proofs.YtpocnjliigjidaaGreat
open Go.RowKit
set_option maxRecDepth 100000
set_option linter.unusedSimpArgs false
set_option linter.unusedVariables false
abbrev Me := Cl × Nat
abbrev K3 := Int × Int × Int
def ck3 (c : Cl) : K3 := (c.1, c.2.1, c.2.2.1)
def vK (k : K3) : Value := .agg #[.int .i64 k.1, .int .i64 k.2.1, .int .i64 k.2.2]
def vV (n : Nat) : Value := .int .u64 (n : Int)
def ent (x : Me) : MapEntry := { key := vK (ck3 x.1), val := vV x.1.2.2.2, born := x.2 }
abbrev mpO (l : List Me) (ck : Nat) : Ob := .map (l.map ent) ck
def fIdx (k : K3) (l : List Me) : Option Nat := l.findIdx? fun x => ck3 x.1 == k
def mput (l : List Me) (ck : Nat) (c : Cl) : List Me × Nat := match fIdx (ck3 c) l with
  | some i => (l.modify i fun x => (c, x.2), ck)
  | none => (l ++ [(c, ck)], ck + 1)
def mdel (l : List Me) (k : K3) : List Me := match fIdx k l with
  | some i => l.eraseIdx i
  | none => l
theorem eqi_int (d : Nat) (w : World) (x y : Int) : (Op.equalIn (d + 1) 3 (.int .i64 x) (.int .i64 y)).run Tryz.prog w = .ok (x == y) w := by
  have u3 := Tryz.underlying3
  simp [Op.equalIn, run_underlying u3]
theorem cki_int (d : Nat) (w : World) (em : Bool) (x : Int) : (Instr.checkKey em (d + 1) 3 (.int .i64 x)).run Tryz.prog w = .ok () w := by
  have u3 := Tryz.underlying3
  simp [Instr.checkKey, run_underlying u3]
theorem cki_place (d : Nat) (w : World) (em : Bool) (x y : Int) : (Instr.checkKey em (d + 2) 88 (.agg #[.int .i64 x, .int .i64 y])).run Tryz.prog w = .ok () w := by
  have a3 := Tryz.isAgg3
  have uS2 := Tryz.underlying88
  have e3 := cki_int d w em
  generalize hd : d + 1 = m at e3
  rw [show d + 2 = m + 1 by omega]
  simp only [Instr.checkKey, Sem.run_bind, run_underlying uS2, Result.andThen_ok]
  go_simp
theorem cki_key (d : Nat) (w : World) (em : Bool) (x y z : Int) : (Instr.checkKey em (d + 3) 115 (.agg #[.int .i64 x, .int .i64 y, .int .i64 z])).run Tryz.prog w = .ok () w := by
  have a3 := Tryz.isAgg3
  have a52 := Tryz.isAgg88
  have uS := Tryz.underlying115
  have e3 := cki_int (d + 1) w em
  have e2 := cki_place d w em
  generalize hd : d + 2 = m at e2
  rw [show d + 1 + 1 = m by omega] at e3
  rw [show d + 3 = m + 1 by omega]
  simp only [Instr.checkKey, Sem.run_bind, run_underlying uS, Result.andThen_ok]
  go_simp
theorem eqt_key : EqT Tryz.prog 115 [some .i64, some .i64, some .i64] := by
  refine ⟨by kernel_rfl, fun xs ys w hx hy => ?_⟩
  obtain ⟨a, _, rfl, h1⟩ := kinds_int hx
  obtain ⟨b, _, rfl, h2⟩ := kinds_int h1
  obtain ⟨c, _, rfl, h3⟩ := kinds_int h2
  obtain rfl := kinds_nil h3
  obtain ⟨a', _, rfl, g1⟩ := kinds_int hy
  obtain ⟨b', _, rfl, g2⟩ := kinds_int g1
  obtain ⟨c', _, rfl, g3⟩ := kinds_int g2
  obtain rfl := kinds_nil g3
  clear h1 h2 h3 g1 g2 g3 hx hy
  have u3 := Tryz.underlying3
  have a3 := Tryz.isAgg3
  have a52 := Tryz.isAgg88
  have hS : Tryz.prog.underlying 115 = some (.struct (Tryz.prog.fieldsOf 115)) := by kernel_rfl
  have hS2 : Tryz.prog.underlying 88 = some (.struct (Tryz.prog.fieldsOf 88)) := by kernel_rfl
  have hp : Tryz.prog.stoodInHeld 115 = false := by kernel_rfl
  have hp2 : Tryz.prog.stoodInHeld 88 = false := by kernel_rfl
  rw [show (10000 : Nat) = 9999 + 1 from rfl, run_equalIn_agg w 9999 115 _ _ hS hp]
  simp only [Program.fieldsOf, Tryz.underlying115, valL]
  have e2 : ∀ (x y x' y' : Int), (Op.equalIn 9999 88 (.agg #[.int .i64 x, .int .i64 y]) (.agg #[.int .i64 x', .int .i64 y'])).run Tryz.prog w = .ok (x == x' && y == y') w := by
    intro x y x' y'
    rw [show (9999 : Nat) = 9998 + 1 from rfl, run_equalIn_agg w 9998 88 _ _ hS2 hp2]
    simp only [Program.fieldsOf, Tryz.underlying88]
    go_simp
    by_cases h1 : x = x' <;> by_cases h2 : y = y' <;> simp [h1, h2]
  have e3 : ∀ (x x' : Int), (Op.equalIn 9999 3 (.int .i64 x) (.int .i64 x')).run Tryz.prog w = .ok (x == x') w := fun x x' => eqi_int 9998 w x x'
  generalize (9999 : Nat) = m at e2 e3 ⊢
  go_simp
  by_cases h1 : a = a' <;> by_cases h2 : b = b' <;> by_cases h3 : c = c' <;> simp [eqL, e2, e3, h1, h2, h3]
theorem run_keq (w : World) (k k' : K3) : (Op.equal 115 (vK k) (vK k')).run Tryz.prog w = .ok (k == k') w := by
  obtain ⟨a, b, c⟩ := k
  obtain ⟨a', b', c'⟩ := k'
  have h := eqt_key.2 [.d (.int .i64 a), .d (.int .i64 b), .d (.int .i64 c)] [.d (.int .i64 a'), .d (.int .i64 b'), .d (.int .i64 c')] w rfl rfl
  have e : eqL [.d (.int .i64 a), .d (.int .i64 b), .d (.int .i64 c)] [.d (.int .i64 a'), .d (.int .i64 b'), .d (.int .i64 c')] = ((a, b, c) == (a', b', c')) := by
    by_cases h1 : a = a' <;> by_cases h2 : b = b' <;> by_cases h3 : c = c' <;> simp [eqL, h1, h2, h3] <;> (rw [Bool.eq_iff_iff]; simp [h1, h2, h3])
  rw [e] at h
  exact h
theorem run_ckey (w : World) (em : Bool) (k : K3) : (Instr.checkKey em 10000 115 (vK k)).run Tryz.prog w = .ok () w := by
  obtain ⟨a, b, c⟩ := k
  exact cki_key 9997 w em a b c
theorem run_fask (w : World) (k : K3) : ∀ (l : List Me) (i : Nat), (Instr.findAsking 115 (vK k) (l.map ent) i).run Tryz.prog w = .ok ((fIdx k l).bind fun j => (l[j]?).map fun x => (i + j, vV x.1.2.2.2)) w
  | [], i => by simp [Instr.findAsking, fIdx]
  | x :: l, i => by
    have ih := run_fask w k l (i + 1)
    simp only [List.map_cons, Instr.findAsking, Sem.run_bind, show (ent x).key = vK (ck3 x.1) from rfl, run_keq, Result.andThen_ok]
    by_cases h : k = ck3 x.1
    · subst h
      simp [fIdx, List.findIdx?_cons, ent]
    · have h1 : (k == ck3 x.1) = false := by simpa using h
      have h2 : (ck3 x.1 == k) = false := by simpa using fun e => h e.symm
      rw [h1]
      simp only [Bool.false_eq_true, if_false, ih]
      unfold fIdx
      rw [List.findIdx?_cons, h2]
      cases hf : l.findIdx? (fun x => ck3 x.1 == k) with
      | none => simp
      | some j => simp [Nat.add_assoc, Nat.add_comm 1 j]
theorem run_fkey (w : World) (k : K3) (l : List Me) : (Instr.findKey 115 (vK k) (l.map ent)).run Tryz.prog w = .ok ((fIdx k l).bind fun j => (l[j]?).map fun x => (j, vV x.1.2.2.2)) w := by
  have uS := Tryz.underlying115
  unfold Instr.findKey
  simp only [Sem.run_bind, run_underlying uS, Result.andThen_ok]
  cases l with
  | nil => simp [Instr.findNow, fIdx]
  | cons x l =>
    have h := run_fask w k (x :: l) 0
    simp only [Nat.zero_add] at h
    simp only [List.map_cons] at h ⊢
    simp only [Instr.findNow, Instr.sameNow]
    exact h
end Go.Proofs.YtpocnjliigjidaaGreat
namespace Go.Proofs.YtpocnjliigjidaaGreat
open Go.RowKit Go.ChangeMaps
set_option maxRecDepth 100000
set_option linter.unusedSimpArgs false
set_option linter.unusedVariables false
theorem Ev.setBlock {w : World} {b : Nat} {o o' : Obj} (hb : w.heap[b]? = some o) (hc : ∀ arr t z, o ≠ .cells arr t z) : Ev w (setBlock w b o') (fun c => c = b) := by
  refine ⟨rfl, rfl, rfl, by simp [ChangeMaps.setBlock], fun c hc2 hn => ?_, ?_⟩
  · show (w.heap.setIfInBounds b o')[c]? = _
    rw [Array.getElem?_setIfInBounds, if_neg (fun e => hn e.symm)]
  · rintro c arr t z rfl h
    rw [hb] at h; injection h with h
    exact absurd h (hc _ _ _)
theorem setBlock_at {w : World} {b : Nat} {o o' : Obj} (hb : w.heap[b]? = some o) : (setBlock w b o').heap[b]? = some o' := by
  have := heap_lt hb
  simp [ChangeMaps.setBlock, this]
theorem run_setMap {P : Program} {w : World} {r : Nat} {es : Array MapEntry} {ck : Nat} (o : Obj) (hb : w.heap[r]? = some (.map es ck)) : (setObj r o).run P w = .ok () (setBlock w r o) := by
  simp [setObj, Sem.run, hb, ChangeMaps.setBlock]
theorem gmap {P : Program} {w : World} {r : Nat} {es : Array MapEntry} {ck : Nat} (hb : w.heap[r]? = some (.map es ck)) : (getObj r).run P w = .ok (.map es ck) w := by simp [getObj, Sem.run, hb]
theorem fIdx_lt {k : K3} {l : List Me} {i : Nat} (h : fIdx k l = some i) : ∃ hl : i < l.length, ck3 l[i].1 = k := by
  unfold fIdx at h
  obtain ⟨h1, h2, _⟩ := List.findIdx?_eq_some_iff_getElem.1 h
  exact ⟨h1, by simpa using h2⟩
theorem vK_bits (k : K3) : Instr.sameBits 10000 (vK k) (vK k) = true := by
  rw [show (10000 : Nat) = 9999 + 1 from rfl]
  generalize (9999 : Nat) = m
  obtain ⟨a, b, c⟩ := k
  simp only [vK, Instr.sameBits]
  simp [Instr.sameBits]
theorem run_mput (w : World) (b : Nat) (l : List Me) (ck : Nat) (c : Cl) (hb : w.heap[b]? = some (.map (l.map ent).toArray ck)) :
    (Instr.mapUpdate 157 (.map (some b)) (vK (ck3 c)) (vV c.2.2.2)).run Tryz.prog w = .ok () (setBlock w b (.map ((mput l ck c).1.map ent).toArray (mput l ck c).2)) := by
  have hu := Tryz.underlying157
  unfold Instr.mapUpdate
  simp only [Sem.run_bind, run_underlying hu, Result.andThen_ok, gmap hb, run_ckey, run_fkey]
  cases hf : fIdx (ck3 c) l with
  | none =>
    simp only [Option.bind_none, mput, hf]
    rw [run_setMap _ hb]
    simp [ent]
  | some i =>
    obtain ⟨hl, hk⟩ := fIdx_lt hf
    simp only [Option.bind_some, List.getElem?_eq_getElem hl, Option.map_some, mput, hf]
    have e1 : ((((l.map ent).toArray[i]?).map (·.key)).getD (vK (ck3 c))) = vK (ck3 c) := by simp [hl, ent, hk]
    have e2 : (Instr.keyThatStays (vK (ck3 c)) (vK (ck3 c))).run Tryz.prog w = .ok (vK (ck3 c)) w := by
      simp [Instr.keyThatStays, vK_bits]
    simp only [Sem.run_bind, e1, e2, Result.andThen_ok]
    rw [run_setMap _ hb]
    have e3 : ((l.map ent).toArray.modify i fun e => { e with key := vK (ck3 c), val := vV c.2.2.2 }) = ((l.modify i fun x => (c, x.2)).map ent).toArray := by
      apply Array.ext'
      simp only [Array.toList_modify]
      apply List.ext_getElem?
      intro q
      simp only [List.getElem?_modify, List.getElem?_map]
      cases hq : l[q]? with
      | none => simp
      | some y => by_cases hiq : i = q <;> simp [hiq, ent]
    rw [e3]
theorem run_mdel (w : World) (ty : TypeId) (b : Nat) (l : List Me) (ck : Nat) (k : K3) (hb : w.heap[b]? = some (.map (l.map ent).toArray ck)) :
    (Builtin.delete_ #[157, 115] ty #[.map (some b), vK k]).run Tryz.prog w = .ok (.tuple #[]) (setBlock w b (.map ((mdel l k).map ent).toArray ck)) := by
  have hu := Tryz.underlying157
  unfold Builtin.delete_
  simp only [List.getElem?_toArray, List.getElem?_cons_zero, List.getElem?_cons_succ]
  simp only [Sem.run_bind, run_underlying hu, Result.andThen_ok, gmap hb, run_ckey, run_fkey]
  cases hf : fIdx k l with
  | none =>
    simp only [Option.bind_none, mdel, hf]
    simp [run_setMap _ hb]
  | some i =>
    obtain ⟨hl, hk⟩ := fIdx_lt hf
    simp only [Option.bind_some, List.getElem?_eq_getElem hl, Option.map_some, mdel, hf]
    simp only [Sem.run_bind, run_setMap _ hb, Result.andThen_ok]
    have e3 : (l.map ent).toArray.eraseIdxIfInBounds i = ((l.eraseIdx i).map ent).toArray := by
      rw [Array.eraseIdxIfInBounds, dif_pos (by simpa using hl)]
      apply Array.ext'
      simp only [Array.toList_eraseIdx, List.toList_toArray, List.eraseIdx_eq_take_drop_succ, List.map_append, List.map_take, List.map_drop]
    rw [e3]
    rfl
theorem rep_key {w : World} {S : Nat → Prop} {μ : Mu} {p g q : Int} {v : Value} (h : Rep w S μ (keyA p g q) v) : v = vK (p, g, q) := by
  cases h with
  | agg h1 h2 h3 =>
    rename_i vs
    have := kinds_rep (w := w) (S := S) (μ := μ) [iv p, iv g, iv q] [some .i64, some .i64, some .i64] vs.toList rfl (by simpa using h1) (fun j x v hx hv => h2 j x v hx (by simpa using hv))
    have e : vs = (valL [iv p, iv g, iv q]).toArray := by rw [← this]
    rw [e]; rfl
theorem rep_wv {w : World} {S : Nat → Prop} {μ : Mu} {n : Nat} {v : Value} (h : Rep w S μ (wv (n : Int)) v) : v = vV n := by
  cases h with | d h => cases h; rfl
theorem key_rep (w : World) (S : Nat → Prop) (μ : Mu) (k : K3) : Rep w S μ (keyA k.1 k.2.1 k.2.2) (vK k) := by
  refine .agg rfl (fun j x v hx hv => ?_) (fun v hv => ?_)
  · match j, hx, hv with
    | 0, hx, hv => simp at hx hv; subst hx hv; exact .d .int
    | 1, hx, hv => simp at hx hv; subst hx hv; exact .d .int
    | 2, hx, hv => simp at hx hv; subst hx hv; exact .d .int
  · simp at hv; rcases hv with rfl | rfl | rfl <;> rfl
theorem ext_mput {n : Nat} {o : Oper} {σ : St} {K : Eff → Prop} {m k x : Operand} {i ck : Nat} {l : List Me} (c : Cl) (ho : o.op = .mapUpdate 157 m k x) (hd : o.dst = none) (hm : getT σ.T m = some (.mp i)) (hk : getT σ.T k = some (keyA c.1 c.2.1 c.2.2.1))
    (hx : getT σ.T x = some (wv (c.2.2.2 : Int))) (hi : σ.H i = some (mpO l ck)) (h : K ⟨.any, [], [(i, some (mpO (mput l ck c).1 (mput l ck c).2))], [i]⟩) : extV Tryz.prog n o σ K := by
  refine ⟨_, fun cx hP hcn => ?_, h⟩
  subst hcn
  intro H T μ a w K Q hr hT hH hn hk'
  have e1 := hr.eval (fun t ht => hT t (by simp [Op.operands, ho, ht])) hm
  have e2 := rep_key (hr.eval (fun t ht => hT t (by simp [Op.operands, ho, ht])) hk)
  have e3 := rep_wv (hr.eval (fun t ht => hT t (by simp [Op.operands, ho, ht])) hx)
  have hHi : H i = some (mpO l ck) := (hH i (by simp)).trans hi
  generalize hpv : a.eval m = pv at e1
  cases e1 with
  | mp hb =>
    rename_i b
    cases hr.ob i _ hHi with
    | map b1 b2 =>
      rw [hb] at b1; injection b1 with b1; injection b1 with b1; subst b1
      have hrun := run_mput w b l ck c b2
      unfold Oper.wp
      simp only [execOp, ho, hpv, e2, e3, hP]
      rw [show ((c.1, c.2.1, c.2.2.1) : K3) = ck3 c from rfl, run_u hrun]
      have key := hr.write (by simp [hHi]) hb σ.h.length (mpO (mput l ck c).1 (mput l ck c).2) .any [i] (Ev.setBlock b2 (by simp)) (.map hb (setBlock_at b2))
      refine hk' _ _ μ ?_ (fun _ _ h => h) (fun i h => .inl h)
      have : appT o.dst AV.any T = T := by funext s; simp [appT, hd]
      rw [this, hd]; exact key
theorem ext_mdel {n : Nat} {o : Oper} {σ : St} {K : Eff → Prop} {m k : Operand} {i ck : Nat} {l : List Me} (c : K3) (ho : o.op = .call { callee := .builtin .delete, args := #[m, k], argTypes := #[157, 115] }) (hd : dstOk n o.dst) (hm : getT σ.T m = some (.mp i)) (hk : getT σ.T k = some (keyA c.1 c.2.1 c.2.2))
    (hi : σ.H i = some (mpO l ck)) (h : K ⟨.any, [], [(i, some (mpO (mdel l c) ck))], [i]⟩) : extV Tryz.prog n o σ K := by
  refine ⟨_, fun cx hP hcn => ?_, h⟩
  subst hcn
  intro H T μ a w K Q hr hT hH hn hk'
  have e1 := hr.eval (fun t ht => hT t (by simp [Op.operands, ho, Call.operands, ht])) hm
  have e2 := rep_key (hr.eval (fun t ht => hT t (by simp [Op.operands, ho, Call.operands, ht])) hk)
  have hHi : H i = some (mpO l ck) := (hH i (by simp)).trans hi
  generalize hpv : a.eval m = pv at e1
  cases e1 with
  | mp hb =>
    rename_i b
    cases hr.ob i _ hHi with
    | map b1 b2 =>
      rw [hb] at b1; injection b1 with b1; injection b1 with b1; subst b1
      have hrun := run_mdel w o.type b l ck c b2
      unfold Oper.wp
      simp only [execOp, ho, resolve, invoke, builtin, Sem.run_bind, Sem.run_pure, Result.andThen_ok, List.map_toArray, List.map_cons, List.map_nil, hpv, e2, hP]
      have e9 : ((Builtin.delete_ #[157, 115] o.type #[.map (some b), vK (c.1, c.2.1, c.2.2)]).run Tryz.prog w) = .ok (.tuple #[]) (setBlock w b (.map ((mdel l c).map ent).toArray ck)) := hrun
      simp only [e9, Result.andThen_ok]
      have key := hr.write (by simp [hHi]) hb σ.h.length (mpO (mdel l c) ck) .any [i] (Ev.setBlock b2 (by simp)) (.map hb (setBlock_at b2))
      refine hk' _ _ μ ?_ (fun _ _ h => h) (fun i h => .inl h)
      exact key.putD hd .any
theorem ext_mmake {n : Nat} {o : Oper} {σ : St} {K : Eff → Prop} {r : Operand} {m : Int} (ho : o.op = .makeMap 157 (some r)) (hd : dstOk n o.dst) (hm : getT σ.T r = some (iv m))
    (h : K ⟨.mp σ.h.length, [mpO [] 0], [], []⟩) : extV Tryz.prog n o σ K := by
  refine ⟨_, fun cx hP hcn => ?_, h⟩
  subst hcn
  intro H T μ a w K Q hr hT hH hn hK
  have hn0 : μ σ.h.length = none := hn 0 (by simp)
  have e1 := hr.eval (fun t ht => hT t (by simp [Op.operands, ho, ht])) hm
  generalize hpv : a.eval r = pv at e1
  cases e1 with
  | d e1 =>
  cases e1
  have hrun : (execOp a.eval o).run cx.P w = .ok (.value (.map (some w.heap.size))) (w.alloc (.map #[] 0)) := by
    have hu := Tryz.underlying157
    simp only [execOp, ho, Option.map_some, hpv, hP]
    refine run_v ?_
    unfold Instr.makeMap
    simp only [Sem.run_bind, run_underlying hu, Result.andThen_ok, asInt, asIntOf]
    rfl
  unfold Oper.wp
  rw [hrun]
  have hμ : ∀ i x, μ i = some x → setMu μ σ.h.length (some w.heap.size) i = some x := by
    intro i x hx
    have : i ≠ σ.h.length := by rintro rfl; rw [hn0] at hx; cases hx
    simp [setMu, this, hx]
  have key := hr.fresh hn0 (mpO [] 0) (.mp σ.h.length) [] (Ev.alloc w (.map #[] 0)) (b := w.heap.size) (by rw [alloc_size]; omega)
    (fun S' hS => .map (by simp [setMu]) (alloc_new w _))
  refine hK _ _ _ (key.2.putD hd (.mp (by simp [setMu]))) hμ (fun i hi => ?_)
  by_cases hin : i = σ.h.length
  · subst hin; exact .inr (by simp)
  · simp [setMu, hin] at hi; exact .inl hi
theorem ext_mrange {n : Nat} {o : Oper} {σ : St} {K : Eff → Prop} {m : Operand} {i ck : Nat} {l : List Me} (ho : o.op = .range 157 m) (hd : dstOk n o.dst) (hm : getT σ.T m = some (.mp i)) (hi : σ.H i = some (mpO l ck))
    (h : K ⟨.ptr σ.h.length 0, [.iter i ck [] ck], [], [i]⟩) : extV Tryz.prog n o σ K := by
  refine ⟨_, fun cx hP hcn => ?_, h⟩
  subst hcn
  intro H T μ a w K Q hr hT hH hn hK
  have hn0 : μ σ.h.length = none := hn 0 (by simp)
  have e1 := hr.eval (fun t ht => hT t (by simp [Op.operands, ho, ht])) hm
  have hHi : H i = some (mpO l ck) := (hH i (by simp)).trans hi
  generalize hpv : a.eval m = pv at e1
  cases e1 with
  | mp hb =>
    rename_i b
    cases hr.ob i _ hHi with
    | map b1 b2 =>
      rw [hb] at b1; injection b1 with b1; injection b1 with b1; subst b1
      have hrun : (execOp a.eval o).run cx.P w = .ok (.value (.pointer (some ⟨w.heap.size, 0, none⟩))) (w.alloc (.mapIter (some b) ck #[] ck)) := by
        have hu := Tryz.underlying157
        simp only [execOp, ho, hpv, hP]
        refine run_v ?_
        unfold Instr.range
        simp only [Sem.run_bind, run_underlying hu, Result.andThen_ok, gmap b2]
        rfl
      unfold Oper.wp
      rw [hrun]
      have hμ : ∀ i x, μ i = some x → setMu μ σ.h.length (some w.heap.size) i = some x := by
        intro i x hx
        have : i ≠ σ.h.length := by rintro rfl; rw [hn0] at hx; cases hx
        simp [setMu, this, hx]
      have key := hr.fresh hn0 (.iter i ck [] ck) (.ptr σ.h.length 0) [i] (Ev.alloc w (.mapIter (some b) ck #[] ck)) (b := w.heap.size) (by rw [alloc_size]; omega)
        (fun S' hS => .iter (by simp [setMu]) (hμ _ _ hb) (alloc_new w _))
      refine hK _ _ _ (key.2.putD hd (.ptr (by simp [setMu]))) hμ (fun i hi => ?_)
      by_cases hin : i = σ.h.length
      · subst hin; exact .inr (by simp)
      · simp [setMu, hin] at hi; exact .inl hi
theorem ext_mentry {n : Nat} {o : Oper} {σ : St} {K : Eff → Prop} {r : Operand} {i j ck since : Nat} {seen : List Nat} {l : List Me} {x : Me} (ho : o.op = .entry r) (hd : dstOk n o.dst) (hr : getT σ.T r = some (.ptr j 0)) (hj : σ.H j = some (.iter i since (seen ++ [x.2]) ck)) (hi : σ.H i = some (mpO l ck))
    (hx : x ∈ l) (hnd : (l.map (·.2)).Nodup) (h : K ⟨.tup [keyA x.1.1 x.1.2.1 x.1.2.2.1, wv (x.1.2.2.2 : Int)], [], [], [j, i]⟩) : extV Tryz.prog n o σ K := by
  refine ⟨_, fun cx hP hcn => ?_, h⟩
  subst hcn
  refine loc_val hd fun H T μ a w hr' he hH => ?_
  have e1 := he r _ (by simp [Op.operands, ho]) hr
  have hHj := (hH j (by simp)).trans hj
  have hHi := (hH i (by simp)).trans hi
  generalize hpv : a.eval r = pv at e1
  cases e1 with
  | ptr hb =>
    rename_i b
    cases hr'.ob j _ hHj with
    | iter b1 bm b2 =>
      rw [hb] at b1; injection b1 with b1; injection b1 with b1; subst b1
      cases hr'.ob i _ hHi with
      | map c1 c2 =>
        rw [bm] at c1; injection c1 with c1; injection c1 with c1; subst c1
        have hrun := run_entry_at (P := Tryz.prog) w b _ since seen.toArray (l.map ent).toArray ck (ent x) (by simpa [ent] using b2) c2 (by rw [List.toList_toArray]; exact List.mem_map_of_mem hx) (by simpa [Function.comp_def, ent] using hnd)
        refine ⟨_, by simp only [execOp, ho, hpv, hP]; exact run_v hrun, .tup rfl (fun q y v hy hv => ?_)⟩
        match q, hy, hv with
        | 0, hy, hv => simp at hy hv; subst hy hv; exact key_rep _ _ _ (ck3 x.1)
        | 1, hy, hv => simp at hy hv; subst hy hv; exact .d .int
def Lft (l : List Me) (seen : List Nat) (x : Me) : Prop := x ∈ l ∧ x.2 ∉ seen
theorem W_next {cx : Cx} {id : Nat} {o : Oper} {rest : List Oper} {σ : St} {Q : Exit → St → Prop} {r : Operand} {i j ck since c0 : Nat} {seen : List Nat} {l : List Me} (lv : List (Nat × List Nat)) (hP : cx.P = Tryz.prog) (ho : o.op = .next r false) (hg : o.guard = none) (hd : dstOk cx.n o.dst)
    (hr : getT σ.T r = some (.ptr j 0)) (hj : σ.H j = some (.iter i since seen c0)) (hi : σ.H i = some (mpO l ck)) (hjl : j < σ.h.length) (hold : ∀ x ∈ l, x.2 < since) (hsc : since ≤ c0)
    (hover : (∀ x ∈ l, x.2 ∈ seen) → opsV cx.P cx.n ((o :: rest).map (·.dst)) rest (σ.app o.dst ⟨.tup [bv false], [], [], []⟩) fun σ' => Q .normal (σ'.keep (lvl lv id)))
    (hnext : ∀ x, Lft l seen x → opsV cx.P cx.n ((o :: rest).map (·.dst)) rest (σ.app o.dst ⟨.tup [bv true, keyA x.1.1 x.1.2.1 x.1.2.2.1, wv (x.1.2.2.2 : Int)], [], [(j, some (.iter i since (seen ++ [x.2]) ck))], [j]⟩) fun σ' => Q .normal (σ'.keep (lvl lv id))) :
    W cx (.region id (o :: rest).toArray false) σ Q := by
  intro μ a w hrr
  refine wp_region_list ?_
  unfold wpList
  rw [if_pos (by simp [Region.wanted, hg])]
  refine .inl ?_
  have e1 := hrr.rr.eval (ts := σ.T) (fun _ _ => rfl) hr
  generalize hpv : a.eval r = pv at e1
  cases e1 with
  | ptr hb =>
    rename_i b
    cases hrr.rr.ob j _ hj with
    | iter b1 bm b2 =>
      rw [hb] at b1; injection b1 with b1; injection b1 with b1; subst b1
      cases hrr.rr.ob i _ hi with
      | map c1 c2 =>
        rw [bm] at c1; injection c1 with c1; injection c1 with c1; subst c1
        have fin : ∀ (e : Eff) (a' : Act) (w' : World), wrOk σ.h.length e.wr = true → e.news = [] → opsV cx.P cx.n ((o :: rest).map (·.dst)) rest (σ.app o.dst e) (fun σ' => Q .normal (σ'.keep (lvl lv id))) → RR cx (appH σ.h.length e σ.H) (appT o.dst e.val σ.T) μ a' w' →
            wpList cx.P (o :: rest).toArray (fun e a' w' => ∃ σ' μ', Q e σ' ∧ RRs cx σ' μ' a' w') rest a' w' := by
          intro e a' w' hok hn h hR
          exact opsV_sound (ops := (o :: rest).toArray) rest _ _ μ a' w' h ⟨by rw [St.app_H _ _ _ hok, St.app_T]; exact hR, fun i hi => hrr.mu i (by rw [St.app_len] at hi; omega), hrr.bor, by rw [St.app_len]; have := hrr.kle; omega⟩
            (fun σ' μ' a' w' h1 h2 => ⟨_, μ', h1, h2.keep _⟩)
        unfold Oper.wp
        simp only [execOp, ho, hpv]
        rcases run_next_at (P := cx.P) w o.type b _ since c0 seen.toArray (l.map ent).toArray ck b2 c2 (by rw [List.toList_toArray]; intro y hy; obtain ⟨z, hz, rfl⟩ := List.mem_map.1 hy; exact hold z hz) hsc with ⟨hz, hrun⟩ | ⟨e, he, w1, hw1, hrun⟩
        · rw [run_v hrun]
          refine fin _ _ _ rfl rfl (hover fun x hx => ?_) ?_
          · have h0 := Array.eq_empty_of_size_eq_zero hz
            unfold leftOf at h0
            rw [Array.filter_eq_empty_iff] at h0
            have := h0 (ent x) (by rw [List.mem_toArray]; exact List.mem_map_of_mem hx)
            simpa [ent] using this
          · rw [appH_id]
            exact hrr.rr.putD hd (.tup rfl (fun q y v hy hv => by
              match q, hy, hv with
              | 0, hy, hv => simp at hy hv; subst hy hv; exact .d .bool))
        · obtain ⟨x, hx, rfl, hns⟩ : ∃ x : Me, x ∈ l ∧ ent x = e ∧ x.2 ∉ seen := by
            unfold leftOf at he
            simp only [Array.toList_filter, List.mem_filter, List.toList_toArray, List.mem_map] at he
            obtain ⟨⟨x, h1, h2⟩, h3⟩ := he
            refine ⟨x, h1, h2, ?_⟩
            rw [← h2] at h3
            simpa [ent] using h3
          rw [run_v hrun]
          have hheap : w1.heap = w.heap := by rcases hw1 with rfl | rfl <;> rfl
          have hev : ∀ q : Option Nat, Ev w (setBlock w1 b (.mapIter q since (seen.toArray.push (ent x).born) ck)) (fun c => c = b) := by
            intro q
            have h1 : Ev w w1 (fun c => c = b) := by
              rcases hw1 with rfl | rfl
              · exact Ev.refl _ _
              · exact ⟨rfl, rfl, rfl, Nat.le_refl _, fun _ _ _ => rfl, fun _ arr _ _ _ h => ⟨arr, h, rfl⟩⟩
            exact h1.trans (Ev.setBlock (by rw [hheap]; exact b2) (by simp))
          have key := hrr.rr.write (by simp [hj]) hb σ.h.length (.iter i since (seen ++ [x.2]) ck) (.tup [bv true, keyA x.1.1 x.1.2.1 x.1.2.2.1, wv (x.1.2.2.2 : Int)]) [j] (hev _) (.iter hb bm (by rw [show (seen ++ [x.2]).toArray = seen.toArray.push (ent x).born by simp [ent]]; exact setBlock_at (by rw [hheap]; exact b2)))
          refine fin _ _ _ (by simp [wrOk, hjl]) rfl (hnext x ⟨hx, hns⟩) ?_
          refine key.putD hd (.tup rfl (fun q y v hy hv => ?_))
          match q, hy, hv with
          | 0, hy, hv => simp at hy hv; subst hy hv; exact .d .bool
          | 1, hy, hv => simp at hy hv; subst hy hv; exact key_rep _ _ _ (ck3 x.1)
          | 2, hy, hv => simp at hy hv; subst hy hv; exact .d .int
end Go.Proofs.YtpocnjliigjidaaGreat
