/- Engine, part Z: an append to an empty literal, read as data; regions in which one operation is done otherwise. -/
import Derived.Test.YtnclclpfmldocaaGreatEngY
namespace Go.Proofs.YtnclclpfmldocaaGreat
open Go.RowKit
set_option linter.unusedSimpArgs false
set_option linter.unusedVariables false

/-- an empty literal: its row is known to have no room -/
theorem loc_build0 {cx : Cx} {n0 : Nat} {ts : Nat → Option AV} {hs : Nat → Option Ob} {o : Oper} {t e : TypeId} (hd : dstOk cx.n o.dst) (ho : o.op = .buildSlice t 0 #[]) (hok : (TL cx.P t).ok = true) (hse : (TL cx.P t).selem = some e) (hsz : 0 < (TL cx.P e).size)
    {z : List AV} (hz : (TL cx.P e).zero = some z) (hzl : z.length = (TL cx.P e).size) : LocOp cx n0 ts hs o ⟨.rowc n0 (TL cx.P e).size 0 0, [.rows e (TL cx.P e).size []], [], []⟩ := by
  have hu := TL_selem hok hse
  obtain ⟨i, zv, h1, h2, h3, hsi, _, h4, h5⟩ := TL_zero hz
  intro H T μ a w K Q hr hT hH hn hK
  have hn0 : μ n0 = none := hn 0 (by simp)
  have hrun : (execOp a.eval o).run cx.P w = .ok (.value (.slice (some ⟨w.heap.size, 0, none⟩) 0 0)) (w.alloc (.cells #[] e)) := by
    simp only [execOp, ho]
    refine run_v ?_
    unfold Instr.buildSlice
    simp only [Sem.run_bind, run_underlying hu, Result.andThen_ok, sizeOf, typeInfo, run_program, h1, Sem.run_pure]
    have e1 : (Array.map (fun _ => (default : Value)) (Array.range 0)) = #[] := by simp [Array.range]
    simp [newRow, newObj, Instr.fill]
    rw [e1]; rfl
  unfold Oper.wp
  rw [hrun]
  have hev := Ev.alloc w (.cells #[] e)
  have hb : (w.alloc (.cells #[] e)).heap[w.heap.size]? = some (.cells #[] e (0, 0)) := alloc_new w _
  have hμ : ∀ i x, μ i = some x → setMu μ n0 (some w.heap.size) i = some x := by
    intro i x hx
    have : i ≠ n0 := by rintro rfl; rw [hn0] at hx; cases hx
    simp [setMu, this, hx]
  have key := hr.fresh hn0 (.rows e (TL cx.P e).size []) (.rowc n0 (TL cx.P e).size 0 0) [] hev (b := w.heap.size) ⟨Nat.le_refl _, heap_lt hb⟩
    (fun S' hS => .rows (by simp [setMu]) hb hsz (by simp) (by simp) (by simp))
  have hrow : Rep (w.alloc (.cells #[] e)) (cx.Sta (appH n0 ⟨.rowc n0 (TL cx.P e).size 0 0, [.rows e (TL cx.P e).size []], [], []⟩ H) (setMu μ n0 (some w.heap.size)) (w.alloc (.cells #[] e))) (setMu μ n0 (some w.heap.size)) (.rowc n0 (TL cx.P e).size 0 0) (.slice (some ⟨w.heap.size, 0, none⟩) 0 0) :=
    .rowc (by simp [setMu]) hb (Nat.le_refl _) (Nat.zero_le _) (by simp)
  refine hK _ _ _ (key.2.putD hd hrow) hμ (fun i hi => ?_)
  by_cases hin : i = n0
  · subst hin; exact .inr (by simp)
  · simp [setMu, hin] at hi; exact .inl hi
/-- an append to an empty literal: the result as data -/
def apD (P : Program) (hs : Nat → Option Ob) (t : TypeId) (q : Nat) (s : AV) (K : List (List D) → TypeId → Nat → List Nat → Prop) : Prop :=
  (TL P t).ok = true ∧ ∃ e, (TL P t).selem = some e ∧ 0 < (TL P e).size ∧ (TL P e).bytes ≤ 100000 ∧ (∃ z, (TL P e).zero = some z ∧ z.length = (TL P e).size) ∧ hs q = some (.rows e (TL P e).size []) ∧
    srcV hs (TL P e).size s fun src rd => src.length ≤ 1000000000 ∧ K src e (TL P e).size rd
theorem loc_append_d {cx : Cx} {n0 : Nat} {ts : Nat → Option AV} {hs : Nat → Option Ob} {o : Oper} {t : TypeId} {y z : Operand} {q sz0 : Nat} {s : AV} {K : Eff → Prop} (hd : dstOk cx.n o.dst)
    (ho : o.op = .call { callee := .builtin .append, args := #[y, z], argTypes := #[t, t] }) (hy : getT ts y = some (.rowc q sz0 0 0)) (hz : getT ts z = some s)
    (h : apD cx.P hs t q s fun src e sz rd => K ⟨.d (.sl src), [.rows e sz []], [(q, none)], q :: rd⟩) : ∃ e, LocOp cx n0 ts hs o e ∧ K e := by
  obtain ⟨hok, e, hse, hsz, hby, ⟨zc, hzc, hzcl⟩, hq, h⟩ := h
  have hu := TL_selem hok hse
  obtain ⟨i, zv, h1, h2, h3, hsi, hoke, h4, h5⟩ := TL_zero hzc
  obtain ⟨i', _, h1', _, _, _, hbi⟩ := TL_ok hoke
  rw [h1] at h1'; injection h1' with h1'; subst h1'
  have hzs : zv.cells.size = i.size := by omega
  obtain ⟨src, rd, ⟨hmax, h⟩, hsrc⟩ := srcV_reads h
  have hmy : y ∈ o.op.operands := by simp [Op.operands, ho, Call.operands]
  have hmz : z ∈ o.op.operands := by simp [Op.operands, ho, Call.operands]
  refine ⟨_, fun H T μ a w K Q hr hT hH hn hk => ?_, h⟩
  have hxv := hr.eval (fun t ht => hT t (ht ▸ hmy)) hy
  have hsv := hr.eval (fun t ht => hT t (ht ▸ hmz)) hz
  obtain ⟨⟨news, hnews, hnl, hnrep⟩, hsl⟩ := hsrc cx H T μ a w (a.eval z) hr (fun q hq => hH q (.inl (by simp [hq]))) hsv
  have hHq : H q = some (.rows e (TL cx.P e).size []) := (hH q (.inl (by simp))).trans hq
  have hqlive : H q ≠ none := by rw [hHq]; simp
  rw [hsi] at hnews hnl hsl hHq hk
  simp only [hsi] at hnrep
  generalize hvy : a.eval y = vv at hxv
  cases hxv with
  | rowc hb b2 b3 b4 b5 =>
    rename_i g arr0 tt
    have hte : tt = e := by
      have := hr.ob q _ hHq
      cases this with
      | rowsNil c1 _ => rw [hb] at c1; cases c1
      | rows c1 c2 _ _ _ _ => rw [hb] at c1; injection c1 with c1; injection c1 with c1; subst c1; rw [b2] at c2; injection c2 with c2; injection c2 with _ e4
    subst hte
    have hbytes : (0 + src.length) * i.bytes ≤ 140737488355328 := by
      have : (0 + src.length) * i.bytes ≤ 1000000000 * 100000 := Nat.mul_le_mul (by omega) (by omega)
      omega
    obtain ⟨v', w', hrun, hcase⟩ := append_sem (P := cx.P) w t o.type tt i zv hu h1 h2 hzs (a.eval y) 0 []
      (.inr ⟨g, 0, arr0, hvy, b2, Nat.le_refl _, Nat.zero_le _, by simpa using b5, by simp⟩) (a.eval z) src.length news hnews (by simp [maxLen]; omega) hbytes
    have hex : (execOp a.eval o).run cx.P w = .ok (.value v') w' := by
      simp only [execOp, ho, resolve, invoke, builtin, Sem.run_bind, Sem.run_pure, Result.andThen_ok, List.map_toArray, List.map_cons, List.map_nil, hrun]
    unfold Oper.wp
    rw [hex]
    have hn0 : μ n0 = none := hn 0 (by simp)
    have hμ : ∀ nb i x, μ i = some x → setMu μ n0 nb i = some x := by
      intro nb i x hx
      have : i ≠ n0 := by rintro rfl; rw [hn0] at hx; cases hx
      simp [setMu, this, hx]
    have hlast : ∀ nb, ∀ q, setMu μ n0 nb q ≠ none → μ q ≠ none ∨ (n0 ≤ q ∧ q < n0 + 1) := by
      intro nb q hq
      by_cases hqn : q = n0
      · subst hqn; exact .inr (by omega)
      · simp [setMu, hqn] at hq; exact .inl hq
    have hip : 0 < i.size := by omega
    have hkill : [(q, (none : Option Ob))] = [] ∨ ∃ i, [(q, (none : Option Ob))] = [(i, none)] ∧ H i ≠ none := .inr ⟨q, rfl, hqlive⟩
    rcases hcase with ⟨hz0, hz1, e1, e2⟩ | ⟨g', cap, cur, cur', e1, e0, e3, e4, e5, e6, e7, e8, e9⟩ | ⟨c', arr, e1, e2, e3, e4, e5, e6⟩
    · rw [hvy] at e2; cases e2
    · rw [hvy] at e1
      simp only [Value.slice.injEq, Option.some.injEq, Addr.mk.injEq, and_true, true_and] at e1
      obtain ⟨rfl, rfl⟩ := e1
      have hs0 : src = [] := List.eq_nil_of_length_eq_zero (by omega)
      subst hs0
      subst e6 e0
      have hev := Ev.setRow e5 e7
      have key := hr.regrow hn0 (.rows tt i.size []) (.d (.sl [])) (q :: rd) [(q, none)] (nb := none) hkill hev (fun b hb' => ⟨q, rfl, by rw [hb']; exact hb⟩) (fun _ h => by cases h) (fun S' _ => .rowsNil (by simp [setMu]) hip)
      exact hk _ _ _ (key.putD hd (.d .nil)) (hμ none) (hlast none)
    · subst e4 e1
      have hev : Ev w (w.drew.alloc (.cells arr tt)) (fun _ => False) := by
        have hq := Ev.alloc w.drew (.cells arr tt)
        exact ⟨hq.os, hq.tape, hq.output, hq.size, hq.block, hq.shape⟩
      have hnewb : (w.drew.alloc (.cells arr tt)).heap[w.heap.size]? = some (.cells arr tt (0, 0)) := alloc_new w.drew _
      have hlen : (0 + src.length) * i.size ≤ arr.size := by rw [e5]; exact Nat.mul_le_mul_right _ e2
      have hcells := rows_of_take (S := cx.Sta H μ w) (w := w) (rs := []) (src := src) hip e6 hlen rfl rfl (by simp) hnl (by simp) hsl (by simp) hnrep
      have key := hr.regrow hn0 (.rows tt i.size []) (.d (.sl src)) (q :: rd) [(q, none)] (nb := none) hkill hev (fun _ h => h.elim) (fun _ h => by cases h) (fun S' _ => .rowsNil (by simp [setMu]) hip)
      refine hk _ _ _ (key.putD hd (.d ?_)) (hμ none) (hlast none)
      have hHn : ∀ j, appH n0 ⟨.d (.sl src), [.rows tt i.size []], [(q, none)], q :: rd⟩ H j ≠ none → j ≠ n0 → H j ≠ none := by
        intro j hj hne
        unfold appH at hj
        rw [if_neg (by simp; omega)] at hj
        by_cases hjq : j = q
        · subst hjq; simp [Eff.wlook] at hj
        · have : Eff.wlook ⟨.d (.sl src), [.rows tt i.size []], [(q, none)], q :: rd⟩ j = none := by
            simp [Eff.wlook]; exact fun h => hjq h.symm
          rw [this] at hj; exact hj
      have hSta : ∀ b, cx.Sta H μ w b → cx.Sta (appH n0 ⟨.d (.sl src), [.rows tt i.size []], [(q, none)], q :: rd⟩ H) (setMu μ n0 none) (w.drew.alloc (.cells arr tt)) b := by
        rintro b (hv | ⟨g1, g2, g3, g4⟩)
        · exact .inl hv
        · refine .inr ⟨g1, Nat.lt_of_lt_of_le g2 hev.size, g3, fun j hj he => ?_⟩
          by_cases hjn : j = n0
          · subst hjn; simp [setMu] at he
          · simp [setMu, hjn] at he
            exact g4 j (hHn j hj hjn) he
      have hSn : cx.Sta (appH n0 ⟨.d (.sl src), [.rows tt i.size []], [(q, none)], q :: rd⟩ H) (setMu μ n0 none) (w.drew.alloc (.cells arr tt)) w.heap.size := by
        refine .inr ⟨hr.fr.size, heap_lt hnewb, fun hB => ?_, fun j hj he => ?_⟩
        · have := hr.blt _ hB; have := hr.fr.size; omega
        · by_cases hjn : j = n0
          · subst hjn; simp [setMu] at he
          · simp [setMu, hjn] at he
            have := (hr.own j _ (hHn j hj hjn) he).2
            omega
      have hcell : ∀ (p j : Nat) (r : List D) (x : D), src[p]? = some r → r[j]? = some x → p * i.size + j < arr.size := by
        intro p j r x hp hj
        have hp2 : p < src.length := (List.getElem?_eq_some_iff.1 hp).1
        have hr3 := hsl r (List.mem_of_getElem? hp)
        have hj4 : j < i.size := by rw [← hr3]; exact (List.getElem?_eq_some_iff.1 hj).1
        have : (p + 1) * i.size ≤ (0 + src.length) * i.size := Nat.mul_le_mul_right _ (by omega)
        rw [Nat.add_mul, Nat.one_mul] at this; omega
      have hz0 : 0 + src.length = src.length := Nat.zero_add _
      rw [hz0]
      refine .sl (sz := i.size) (off := 0) (fun p j => arr.getD (p * i.size + j) undef) hSn (by omega) (fun p r hp => hsl r (List.mem_of_getElem? hp)) (fun p j r x hp hj => ?_) (fun p j r x hp hj => ?_)
      · have hlt := hcell p j r x hp hj
        rw [Nat.zero_add]
        simp only [World.cell?, hnewb]
        simp [hlt]
      · have hlt := hcell p j r x hp hj
        have := hcells p j r x arr[p * i.size + j] (by simpa using hp) hj (by simp [hlt])
        have e : arr.getD (p * i.size + j) undef = arr[p * i.size + j] := by simp [hlt]
        rw [e]
        exact this.evolve hev (fun _ h => h.elim) hSta

/-! ### regions in which some operations are done otherwise -/
def opX (P : Program) (n : Nat) (σ : St) (o : Oper) (K : Eff → Prop) : Prop := opV P n σ o K ∨ extV P n o σ K
theorem opX_sound {cx : Cx} {σ : St} {o : Oper} {K : Eff → Prop} (h : opX cx.P cx.n σ o K) : ∃ e, LocOp cx σ.h.length σ.T σ.H o e ∧ K e := by
  rcases h with h | ⟨e, h1, h2⟩
  · exact opV_sound h
  · exact ⟨e, h1 cx rfl rfl, h2⟩
def opsX (P : Program) (n : Nat) (ds : List (Option Tmp)) : List Oper → St → List Foot → (List Foot → St → Prop) → Prop
  | [], σ, acc, K => K acc σ
  | o :: rest, σ, acc, K => gdV ds σ o (opX P n σ o fun e => wrOk σ.h.length e.wr = true ∧ opsX P n ds rest (σ.app o.dst e) (acc ++ [footE σ.h.length e]) K)
      (dstOk n o.dst ∧ opsX P n ds rest (σ.app o.dst skipE) (acc ++ [footE σ.h.length skipE]) K)
theorem opsX_run {cx : Cx} {ops : Array Oper} : ∀ (l : List Oper) (σ : St) (acc : List Foot) (K : List Foot → St → Prop), opsX cx.P cx.n (ops.toList.map (·.dst)) l σ acc K →
    ∃ es, GoodRun cx ops l es σ ∧ K (acc ++ feetS l es σ) (stepsS l es σ)
  | [], σ, acc, K, h => ⟨[], trivial, by simpa [feetS, stepsS, opsX] using h⟩
  | o :: rest, σ, acc, K, h => by
    have yes : (∀ (H : Nat → Option Ob) (T : Nat → Option AV) (μ : Mu) (a : Act) (w : World), RR cx H T μ a w → (∀ t, t ∈ o.looksAt ops → T t = σ.T t) → Region.wanted o (yielded ops a.tmps) = true) →
        opX cx.P cx.n σ o (fun e => wrOk σ.h.length e.wr = true ∧ opsX cx.P cx.n (ops.toList.map (·.dst)) rest (σ.app o.dst e) (acc ++ [footE σ.h.length e]) K) →
        ∃ es, GoodRun cx ops (o :: rest) es σ ∧ K (acc ++ feetS (o :: rest) es σ) (stepsS (o :: rest) es σ) := by
      intro hw h
      obtain ⟨e, hloc, hok, hrest⟩ := opX_sound h
      obtain ⟨es, h1, h2⟩ := opsX_run rest _ _ K hrest
      refine ⟨e :: es, ⟨fun H T μ a w K Q hr hT hH hn hk => ?_, hok, h1⟩, by simpa [feetS, stepsS, List.append_assoc] using h2⟩
      rw [if_pos (hw H T μ a w hr hT)]
      exact hloc H T μ a w K Q hr (fun t ht => hT t (List.mem_append_left _ (List.mem_filterMap.2 ⟨.tmp t, by simpa using ht, rfl⟩))) hH hn hk
    have no : (∀ (H : Nat → Option Ob) (T : Nat → Option AV) (μ : Mu) (a : Act) (w : World), RR cx H T μ a w → (∀ t, t ∈ o.looksAt ops → T t = σ.T t) → Region.wanted o (yielded ops a.tmps) = false) →
        (dstOk cx.n o.dst ∧ opsX cx.P cx.n (ops.toList.map (·.dst)) rest (σ.app o.dst skipE) (acc ++ [footE σ.h.length skipE]) K) →
        ∃ es, GoodRun cx ops (o :: rest) es σ ∧ K (acc ++ feetS (o :: rest) es σ) (stepsS (o :: rest) es σ) := by
      rintro hw ⟨hd, h⟩
      obtain ⟨es, h1, h2⟩ := opsX_run rest _ _ K h
      refine ⟨skipE :: es, ⟨fun H T μ a w K Q hr hT hH hn hk => ?_, rfl, h1⟩, by simpa [feetS, stepsS, List.append_assoc] using h2⟩
      rw [if_neg (by rw [hw H T μ a w hr hT]; simp)]
      refine hk _ _ μ ?_ (fun _ _ h => h) (fun i h => .inl h)
      have : appH σ.h.length skipE H = H := appH_id _ _ _ _
      rw [this]
      exact hr.putD hd (.tup rfl (by simp))
    simp only [opsX, gdV] at h
    cases hg : o.guard with
    | none => simp only [hg] at h; exact yes (fun _ _ _ _ _ _ _ => by simp [Region.wanted, hg]) h
    | some gw =>
      obtain ⟨g, want⟩ := gw
      simp only [hg] at h
      split at h
      · rename_i s hds
        obtain ⟨v, hv, h⟩ := h
        have hs : (ops[g]?).bind (·.dst) = some s := by
          rw [List.getElem?_map] at hds
          cases hq : ops[g]? with
          | none => simp [hq] at hds
          | some q => simp [hq] at hds; simp [hds]
        split at h
        · rename_i b
          have hy : ∀ (H : Nat → Option Ob) (T : Nat → Option AV) (μ : Mu) (a : Act) (w : World), RR cx H T μ a w → (∀ t, t ∈ o.looksAt ops → T t = σ.T t) → yielded ops a.tmps g = some b := fun H T μ a w hr hT =>
            yielded_of hr hs ((hT s (by simp [Oper.looksAt, hg, hs])).trans hv)
          by_cases hb : b = want
          · exact yes (fun H T μ a w hr hT => by simp [Region.wanted, hg, hy H T μ a w hr hT, hb]) (h.1 hb)
          · exact no (fun H T μ a w hr hT => by simp [Region.wanted, hg, hy H T μ a w hr hT, hb]) (h.2 (by cases b <;> cases want <;> simp_all))
        · have hy : ∀ (H : Nat → Option Ob) (T : Nat → Option AV) (μ : Mu) (a : Act) (w : World), RR cx H T μ a w → (∀ t, t ∈ o.looksAt ops → T t = σ.T t) → yielded ops a.tmps g = none := fun H T μ a w hr hT =>
            yielded_none hr hs ((hT s (by simp [Oper.looksAt, hg, hs])).trans hv)
          exact no (fun H T μ a w hr hT => by simp [Region.wanted, hg, hy H T μ a w hr hT]) h
        · exact h.elim
      · exact h.elim

theorem region_drawX {cx : Cx} {id : Nat} {ops : Array Oper} {σ : St} {K : St → Prop} {Q : Exit → Act → World → Prop} {μ : Mu} {a : Act} {w : World} (hm : cx.P.follows .mixedOrders = true)
    (h : opsX cx.P cx.n (ops.toList.map (·.dst)) ops.toList σ [] fun feet σ' => chkR ops feet = true ∧ K σ') (hr : RRs cx σ μ a w) (hQ : ∀ σ' μ' a' w', K σ' → RRs cx σ' μ' a' w' → Q .normal a' w') :
    (Code.region id ops true).wp cx.P Q a w := by
  obtain ⟨es, hgood, hchk, hK⟩ := opsX_run ops.toList σ [] _ h
  obtain ⟨hlen, hat⟩ := good_at cx ops es σ hgood
  obtain ⟨hst, hft⟩ := steps_sig ops es σ ops.toList es 0 rfl rfl (by simpa using hlen)
  simp only [Nat.zero_add, List.nil_append, Array.length_toList] at hst hft hchk
  have e0 : sigA ops es σ 0 = σ := rfl
  rw [e0] at hst hft
  rw [hst] at hK
  have hrep : ∀ i, (Array.replicate ops.size false).getD i false = false := by
    intro i
    by_cases hi : i < ops.size <;> simp [hi]
  have efun : (fun i => (Array.replicate ops.size false).getD i false) = fun i => decide (i < 0) := by funext i; rw [hrep]; simp
  have hp := sig_prefix ops es σ (fun j hj => (hat j hj).2) 0 (Nat.zero_le _)
  have hev : Ev w { w with drawn := w.drawn + 1 } (fun _ => False) := ⟨rfl, rfl, rfl, Nat.le_refl _, fun _ _ _ => rfl, fun _ arr _ _ _ h => ⟨arr, h, rfl⟩⟩
  refine wp_region_any hm (any_order hat _ hft hchk hr.kle (fun μ' a' w' hr' => hQ _ μ' a' w' hK hr') ops.size _ a _ μ (by simp) (fun j _ hl => by rw [hrep] at hl; cases hl) ?_ (fun q hq => ?_) hr.bor (by
    have := List.countP_le_length (p := fun i => !(Array.replicate ops.size false).getD i false) (l := List.range ops.size)
    simpa using this))
  · rw [efun, ← hp.1, ← hp.2, e0]
    have h0 := hr.rr
    refine ⟨h0.n, h0.dfr, fun s x hx => ?_, fun i o ho => ?_, h0.own, h0.inj, ⟨h0.fr.os, h0.fr.tape, h0.fr.output, h0.fr.size, h0.fr.block, h0.fr.shape⟩, h0.vlt, h0.blt⟩
    · obtain ⟨v, h1, h2⟩ := h0.tm s x hx
      exact ⟨v, h1, h2.evolve hev (fun _ h => h.elim) (fun _ h => h) (fun _ _ h => h)⟩
    · exact (h0.ob i o ho).evolve hev (fun _ h => h.elim) (fun _ h => h) (fun _ _ h => h) (fun _ _ h => h)
  · rcases Nat.lt_or_ge q σ.h.length with h | h
    · exact .inl h
    · exact absurd (hr.mu q h) hq

theorem opsx_nil {P : Program} {n : Nat} {ds : List (Option Tmp)} {σ : St} {acc : List Foot} {K : List Foot → St → Prop} (h : K acc σ) : opsX P n ds [] σ acc K := h
theorem opsx_cons {P : Program} {n : Nat} {ds : List (Option Tmp)} {o : Oper} {rest : List Oper} {σ : St} {acc : List Foot} {K0 : List Foot → St → Prop} (hg : o.guard = none)
    (h : ∀ K : List Foot → St → Prop, (∀ acc' σ', opsX P n ds rest σ' acc' K0 → K acc' σ') → opV P n σ o fun e => wrOk σ.h.length e.wr = true ∧ K (acc ++ [footE σ.h.length e]) (σ.app o.dst e)) : opsX P n ds (o :: rest) σ acc K0 := by
  have h1 := h (fun acc' σ' => opsX P n ds rest σ' acc' K0) (fun _ _ h => h)
  show gdV ds σ o _ _
  unfold gdV
  rw [hg]
  exact .inl h1
theorem opsx_ext {P : Program} {n : Nat} {ds : List (Option Tmp)} {o : Oper} {rest : List Oper} {σ : St} {acc : List Foot} {K0 : List Foot → St → Prop} (hg : o.guard = none)
    (h : ∀ K : List Foot → St → Prop, (∀ acc' σ', opsX P n ds rest σ' acc' K0 → K acc' σ') → extV P n o σ fun e => wrOk σ.h.length e.wr = true ∧ K (acc ++ [footE σ.h.length e]) (σ.app o.dst e)) : opsX P n ds (o :: rest) σ acc K0 := by
  have h1 := h (fun acc' σ' => opsX P n ds rest σ' acc' K0) (fun _ _ h => h)
  show gdV ds σ o _ _
  unfold gdV
  rw [hg]
  exact .inr h1
theorem W_drwX {cx : Cx} {id : Nat} {l : List Oper} {σ : St} {Q : Exit → St → Prop} (lv : List (Nat × List Nat)) (hm : cx.P.follows .mixedOrders = true)
    (h : opsX cx.P cx.n (l.map (·.dst)) l σ [] fun feet σ' => chkR l.toArray feet = true ∧ Q .normal (σ'.keep (lvl lv id))) : W cx (.region id l.toArray true) σ Q :=
  fun μ a w hr => region_drawX (K := fun σ' => Q .normal (σ'.keep (lvl lv id))) hm (by simpa using h) hr fun _ μ' _ _ h1 h2 => ⟨_, μ', h1, h2.keep _⟩
theorem ext_build0 {P : Program} {n : Nat} {o : Oper} {σ : St} {K : Eff → Prop} {t e : TypeId} (ho : o.op = .buildSlice t 0 #[]) (hd : dstOk n o.dst) (hok : (TL P t).ok = true) (hse : (TL P t).selem = some e) (hsz : 0 < (TL P e).size)
    (hz : ∃ z, (TL P e).zero = some z ∧ z.length = (TL P e).size) (h : K ⟨.rowc σ.h.length (TL P e).size 0 0, [.rows e (TL P e).size []], [], []⟩) : extV P n o σ K :=
  ⟨_, fun cx hP hn => by subst hP hn; obtain ⟨z, h1, h2⟩ := hz; exact loc_build0 hd ho hok hse hsz h1 h2, h⟩
theorem ext_append0 {P : Program} {n : Nat} {o : Oper} {σ : St} {K : Eff → Prop} {t e : TypeId} {y z : Operand} {q sz0 : Nat} {rows : List (List D)} (ho : o.op = .call { callee := .builtin .append, args := #[y, z], argTypes := #[t, t] }) (hd : dstOk n o.dst)
    (hy : getT σ.T y = some (.rowc q sz0 0 0)) (hz : getT σ.T z = some (.d (.sl rows))) (hok : (TL P t).ok = true) (hse : (TL P t).selem = some e) (hsz : 0 < (TL P e).size) (hby : (TL P e).bytes ≤ 100000) (hzc : ∃ z, (TL P e).zero = some z ∧ z.length = (TL P e).size)
    (hq : σ.H q = some (.rows e (TL P e).size [])) (hr : ∀ r ∈ rows, r.length = (TL P e).size) (hm : rows.length ≤ 1000000000) (h : K ⟨.d (.sl rows), [.rows e (TL P e).size []], [(q, none)], [q]⟩) : extV P n o σ K := by
  have key : ∀ cx : Cx, cx.P = P → cx.n = n → LocOp cx σ.h.length σ.T σ.H o ⟨.d (.sl rows), [.rows e (TL P e).size []], [(q, none)], [q]⟩ := by
    intro cx hP hn
    subst hP hn
    obtain ⟨e', h1, rfl⟩ := loc_append_d (K := fun x => x = ⟨.d (.sl rows), [.rows e (TL cx.P e).size []], [(q, none)], [q]⟩) (n0 := σ.h.length) hd ho hy hz ⟨hok, e, hse, hsz, hby, hzc, hq, hr, hm, rfl⟩
    exact h1
  exact ⟨_, key, h⟩
end Go.Proofs.YtnclclpfmldocaaGreat
