import Derived.Test.YtpocnjliigjidaaGreatFlT
/- A flat memory: its keys in order, as an iterator; by the kit's walk. -/
namespace Go.Proofs.YtpocnjliigjidaaGreat
open Go.RowKit Go.Sort Go.Shelf
attribute [local go_sem] Oper.semAt_some
set_option linter.unusedSimpArgs false
set_option linter.unusedVariables false
theorem mkeys_calls (mb : Option Nat) (w : World) :
    Calls Tryz.prog 164 #[.map mb] w fun e w' => e = .returned (.func (.func 167) #[] #[.pointer (some ⟨w.heap.size, 0, none⟩)]) ∧ w.alloc (.cells #[.map mb] 157) = w' := by
  go_enter Tryz.func164, Tryz.ntmps164
  go_wp2
  go_ret
  exact ⟨rfl, rfl⟩
theorem sorted_calls (va vm vv : Value) (h1 : va.oneCell' = true) (h2 : vm.oneCell' = true) (h3 : vv.oneCell' = true) (w : World) :
    Calls Tryz.prog 158 #[.agg #[va, vm, vv]] w fun e w' => e = .returned (.func (.func 162) #[] #[.pointer (some ⟨w.heap.size, 0, none⟩)]) ∧ w.alloc (.cells #[va, vm, vv] 159) = w' := by
  go_enter Tryz.func158, Tryz.ntmps158
  go_wp2
  go_ret
  exact ⟨rfl, rfl⟩
structure StPre (n₀ : Nat → Prop) (g b : Nat) (va vm : Value) (l : List Me) (ck : Nat) (W : World) : Prop where
  box : Blk W g 159 #[va, vm, .map (some b)]
  map : W.heap[b]? = some (.map (l.map ent).toArray ck)
  gn : n₀ g
  bn : n₀ b
theorem own_keep {α : Type} {enc : α → List Value} {sz base : Nat} {e : TypeId} {A B : World} {v : Value} {l : List α} (h : Own enc sz base e A v l) (hk : ∀ k, v.ownBlock = some k → B.heap[k]? = A.heap[k]?) : Own enc sz base e B v l := by
  obtain ⟨h1, h2⟩ := h
  refine ⟨h1, ?_⟩
  rcases h2 with h2 | ⟨g, cap, cur, rfl, hg, hh, r⟩
  · exact .inl h2
  · exact .inr ⟨g, cap, cur, rfl, hg, (hk g rfl).trans hh, r⟩
set_option maxRecDepth 100000 in
set_option maxHeartbeats 1000000 in
theorem sorted1_set (n g b : Nat) (n₀ : Nat → Prop) (hn : 14 ≤ n) (va vm : Value) (l : List Me) (ck : Nat) (hM : Mok l ck) (hl : l.length ≤ 1000000) (ks : List K3) (hks : ks.Perm (kys l)) (hso : ks.Pairwise BefK) :
    SeqSet n Tryz.prog 162 #[.pointer (some ⟨g, 0, none⟩)] kA n₀ (fun _ => False) (fun xs => xs = ks) (StPre n₀ g b va vm l ck) := by
  rintro lp C W ⟨hg, hb, hgn, hbn⟩ hC hY h0
  have hlen : ks.length ≤ 1000000 := by rw [hks.length_eq]; simpa [kys] using hl
  refine callsIn_of_wp Tryz.func162 rfl trivial ?_ rfl
  simp only [Tryz.ntmps162, List.size_toArray, List.length_cons, List.length_nil, Nat.reduceAdd, Nat.reduceSub, Array.replicate_succ, Array.replicate_zero, List.push_toArray, List.append_toArray, List.nil_append, List.cons_append]
  have g2 : W.cell? ⟨g, 2, none⟩ = some (.map (some b)) := hg.cell 2
  gi_wp2
  refine ⟨trivial, fun _ => by omega, (callsIn_wide.2 (mkeys_calls (some b) W)).mono ?_⟩
  rintro e w1 ⟨rfl, rfl⟩
  have hgl := hg.lt
  have hbl := heap_lt hb
  have hKy : KyPre (fun k => k < (W.alloc (.cells #[.map (some b)] 157)).heap.size) W.heap.size b l ck (W.alloc (.cells #[.map (some b)] 157)) :=
    ⟨Blk.new W _ _, (Below.heap_alloc _ _ b hbl).trans hb, by simp, by simp; omega⟩
  have c1 := sortedFunc_calls (n - 1) W.heap.size b (by omega) l ck hM hl ks hks hso _ hKy
  gi_wp2
  refine ⟨trivial, fun _ => by omega, c1.mono ?_⟩
  rintro e W2 ⟨v, rfl, ho, hB⟩
  have hB2 : Below W.heap.size W W2 := (by repeat (first | exact Below.refl _ _ | assumption | apply Below.drew | apply b_drewN | apply b_alloc | (refine Below.setCell ?_ (by (try simp); (try omega)) _) | (refine b_then ?_ (by assumption))))
  have hC2 : C [] (fun k => v.ownBlock = some k) W2 := hC _ _ _ _ _ h0 (OnlyK.of_below hB2) (fun k hk => .inr (by have := ho.lt k hk; simp at this; omega))
  have hown : Own encK 3 W.heap.size 115 W2 v ks := by
    obtain ⟨h1, h2⟩ := ho
    refine ⟨h1, ?_⟩
    rcases h2 with h2 | ⟨q, cap, cur, e1, hq, r⟩
    · exact .inl h2
    · exact .inr ⟨q, cap, cur, e1, by simp at hq; omega, r⟩
  clear ho c1 hKy
  obtain ⟨A, c, rfl, hc, _⟩ := (hown.rd codedK)
  gi_wp2
  gi_loopw [10] (fun i wr => ∃ (k : Nat) (K : Nat → Prop), k ≤ ks.length ∧ i = .int .i64 k ∧ C (ks.take k) K wr ∧ (∀ q, (Value.slice A ks.length c).ownBlock = some q → K q) ∧ Own encK 3 W.heap.size 115 wr (.slice A ks.length c) ks) (fun i _ => ks.length - (intOf i).toNat)
  case atStart => exact ⟨0, _, Nat.zero_le _, rfl, hC2, fun q h => h, hown⟩
  case round =>
    obtain ⟨k, K, hk, rfl, hCk, hKk, hor⟩ := hrel
    by_cases hlt : k < ks.length
    · obtain ⟨A', c', e1, _, hx⟩ := hor.rd codedK
      obtain ⟨bb, off, rfl, hbb, hx⟩ := hx (by omega)
      injection e1 with e1 _ e2
      subst e1 e2
      have e : ks[k]? = some ks[k] := List.getElem?_eq_getElem hlt
      have p0 := hx k _ e 0 _ rfl
      have p1 := hx k _ e 1 _ rfl
      have p2 := hx k _ e 2 _ rfl
      have htk : ks.take (k + 1) = ks.take k ++ [ks[k]] := List.take_succ_eq_append_getElem hlt
      have hpf : ks.take k ++ [ks[k]] <+: ks := by rw [← htk]; exact List.take_prefix _ _
      have hext : ∃ xs : List K3, xs = ks ∧ ks.take k ++ [ks[k]] <+: xs := ⟨ks, rfl, hpf⟩
      have Htk := Lib.hid htk
      clear htk hpf e hx
      generalize ks[k] = x at *
      obtain ⟨x1, x2, x3⟩ := x
      simp only [Nat.add_zero] at p0 p1 p2
      gi_wp2
      obtain ⟨o3, ho3⟩ : ∃ o3 : Obj, Obj.cells #[Value.int IntKind.i64 x1, Value.int IntKind.i64 x2, Value.int IntKind.i64 x3] 115 = o3 := ⟨_, rfl⟩
      have hC3 : C (ks.take k) K (wr.alloc o3) := hC _ _ _ _ _ hCk (OnlyK.alloc _ _ _) (fun k h => .inl h)
      have hor3 : Own encK 3 W.heap.size 115 (wr.alloc o3) _ ks := hor.alloc o3
      obtain ⟨fn, tmps, assign, body, hy, hR⟩ := hY (ks.take k) (x1, x2, x3) K _ hC3 hext
      dsimp only [kA, vK] at hy
      rw [ho3]
      generalize wr.alloc o3 = w3 at *
      rw [hy, Oper.uponIn_round]
      refine ⟨fun _ => by omega, hR.mono ?_⟩
      rintro e W4 ⟨rfl, hC4, hk4⟩
      have hor4 : Own encK 3 W.heap.size 115 W4 _ ks := own_keep hor3 (fun q hq => hk4.2 q (hor3.lt q hq).2 (.inr (hKk q hq)))
      simp only [Act.put, List.setIfInBounds_toArray, List.set_cons_succ, List.set_cons_zero]
      gi_wp2
      go_roundw
      case rel => exact ⟨k + 1, K, by omega, by go_num, by rw [Htk.out]; exact hC4, hKk, hor4⟩
      case measure => simp [intOf]; omega
    · obtain rfl : k = ks.length := by omega
      gi_wp2
      go_end0
      exact ⟨⟨_, rfl⟩, ks, K, rfl, by rw [List.take_length] at hCk; exact hCk⟩
end Go.Proofs.YtpocnjliigjidaaGreat
namespace Go.Proofs.YtpocnjliigjidaaGreat
open Go.RowKit Go.ChangeMaps
set_option linter.unusedSimpArgs false
set_option linter.unusedVariables false
set_option maxRecDepth 100000
theorem callsIn_round {l n : Nat} {P : Program} {f : FuncId} {args : Array Value} {w : World} {R : Ending → World → Prop} (h : Calls P f args w R) : CallsIn (Fence.wide.inRound l) n P f args w R :=
  callsIn_wide (n := n) |>.2 h
theorem rowsIn_round {l n : Nat} {P : Program} {f : String} {args : Array Value} {w : World} {R : Value → World → Prop} (h : Rows P f args w R) : RowsIn (Fence.wide.inRound l) n P f args w R :=
  fun c cs _ => let ⟨v, w', r, s⟩ := h c cs; ⟨v, w', r, stepsIn_wide.2 s⟩
theorem operIn_round {l n : Nat} {P : Program} {o : Oper} {a : Act} {w : World} {K : Act → World → Prop} {Q : Exit → Act → World → Prop} (hd : ∀ c, o.op ≠ .defer c) (h : o.wp P a w K Q) : o.wpIn (Fence.wide.inRound l) n P a w K Q := by
  refine ⟨fun _ _ => trivial, ?_⟩
  rw [Oper.semAt_eq _ _ _ hd]
  unfold Oper.wp at h
  generalize (execOp a.eval o).run P w = r at h ⊢
  cases r with
  | ok nx w' =>
    cases nx with
    | value v => exact h
    | skip => exact h
    | defer d => exact h
    | enter f args => exact ⟨fun h => by simp [Fence.wide, Fence.inRound] at h, callsIn_round h⟩
    | row row args => exact ⟨fun h => by simp [Fence.wide, Fence.inRound] at h, rowsIn_round h⟩
    | _ => exact h.elim
  | halt x w' =>
    cases x with
    | panic v => exact h
    | _ => exact h.elim
def noDefer (ops : Array Oper) : Bool := ops.all fun o => match o.op with | .defer _ => false | _ => true
theorem noDefer_get {ops : Array Oper} (h : noDefer ops = true) {i : Nat} {o : Oper} (hi : ops[i]? = some o) : ∀ c, o.op ≠ .defer c := by
  intro c hc
  unfold noDefer at h
  rw [Array.all_eq_true] at h
  obtain ⟨hlt, e⟩ := Array.getElem?_eq_some_iff.1 hi
  have := h i hlt
  rw [e, hc] at this
  cases this
theorem wpAny_round {l n : Nat} {P : Program} {md : Region.Mode} {ops : Array Oper} {Q : Exit → Act → World → Prop} (hd : noDefer ops = true) (hQ : ¬ LetsOut Q) : ∀ (fuel : Nat) (listed : Array Bool) (a : Act) (w : World),
    wpAny P md ops Q fuel listed a w → wpAnyIn (Fence.wide.inRound l) n P md ops Q fuel listed a w
  | 0, _, _, _, h => h
  | fuel + 1, listed, a, w, h => by
    refine ⟨h.1, fun i hi => ?_⟩
    have h2 := h.2 i hi
    unfold wpOp at h2
    unfold wpOpIn
    cases ho : ops[i]? with
    | none => rw [ho] at h2; exact wpAny_round hd hQ fuel _ a w h2
    | some o =>
      simp only [ho] at h2 ⊢
      by_cases hw : Region.wanted o (yielded ops a.tmps) = true
      · rw [if_pos hw] at h2 ⊢
        rcases h2 with h2 | ⟨_, h2⟩
        · exact operIn_round (noDefer_get hd ho) (Oper.wp_mono (fun a w h => wpAny_round hd hQ fuel _ a w h) h2)
        · exact absurd h2 hQ
      · rw [if_neg hw] at h2 ⊢
        exact ⟨fun _ _ => trivial, wpAny_round hd hQ fuel _ _ w h2⟩
theorem region_drawAny {cx : Cx} {ops : Array Oper} {σ : St} {K : St → Prop} {Q : Exit → Act → World → Prop} {μ : Mu} {a : Act} {w : World}
    (h : opsD cx.P cx.n (ops.toList.map (·.dst)) ops.toList σ [] fun feet σ' => chkR ops feet = true ∧ K σ') (hr : RRs cx σ μ a w) (hQ : ∀ σ' μ' a' w', K σ' → RRs cx σ' μ' a' w' → Q .normal a' w') :
    wpAny cx.P .any ops Q ops.size (Array.replicate ops.size false) a { w with drawn := w.drawn + 1 } := by
  obtain ⟨es, hgood, hchk, hK⟩ := opsD_run ops.toList σ [] _ h
  obtain ⟨hlen, hat⟩ := good_at cx ops es σ hgood
  obtain ⟨hst, hft⟩ := steps_sig ops es σ ops.toList es 0 rfl rfl (by simpa using hlen)
  simp only [Nat.zero_add, List.nil_append, Array.length_toList] at hst hft hchk
  have e0 : sigA ops es σ 0 = σ := rfl
  rw [e0] at hst hft
  rw [hst] at hK
  have hrep : ∀ i, (Array.replicate ops.size false).getD i false = false := by
    intro i
    by_cases hi : i < ops.size <;> simp [hi]
  have efun : (fun i => (Array.replicate ops.size false).getD i false) = fun i => decide (i < 0) := by funext i; rw [hrep]; simp
  have hp := sig_prefix ops es σ (fun j hj => (hat j hj).2) 0 (Nat.zero_le _)
  have hev : Ev w { w with drawn := w.drawn + 1 } (fun _ => False) := ⟨rfl, rfl, rfl, Nat.le_refl _, fun _ _ _ => rfl, fun _ arr _ _ _ h => ⟨arr, h, rfl⟩⟩
  refine (any_order hat _ hft hchk hr.kle (fun μ' a' w' hr' => hQ _ μ' a' w' hK hr') ops.size _ a _ μ (by simp) (fun j _ hl => by rw [hrep] at hl; cases hl) ?_ (fun q hq => ?_) hr.bor (by
    have := List.countP_le_length (p := fun i => !(Array.replicate ops.size false).getD i false) (l := List.range ops.size)
    simpa using this))
  · rw [efun, ← hp.1, ← hp.2, e0]
    have h0 := hr.rr
    refine ⟨h0.n, h0.dfr, fun s x hx => ?_, fun i o ho => ?_, h0.own, h0.inj, ⟨h0.fr.os, h0.fr.tape, h0.fr.output, h0.fr.size, h0.fr.block, h0.fr.shape⟩, h0.vlt, h0.blt⟩
    · obtain ⟨v, h1, h2⟩ := h0.tm s x hx
      exact ⟨v, h1, h2.evolve hev (fun _ h => h.elim) (fun _ h => h) (fun _ _ h => h)⟩
    · exact (h0.ob i o ho).evolve hev (fun _ h => h.elim) (fun _ h => h) (fun _ _ h => h) (fun _ _ h => h)
  · rcases Nat.lt_or_ge q σ.h.length with h | h
    · exact .inl h
    · exact absurd (hr.mu q h) hq
theorem region_drawIn {cx : Cx} {lp n id : Nat} {l : List Oper} {σ : St} {K : St → Prop} {Q : Exit → Act → World → Prop} {μ : Mu} {a : Act} {w : World} (hd : noDefer l.toArray = true) (hQo : ¬ LetsOut Q) (hm : cx.P.follows .mixedOrders = true)
    (h : opsD cx.P cx.n (l.map (·.dst)) l σ [] fun feet σ' => chkR l.toArray feet = true ∧ K σ') (hr : RRs cx σ μ a w) (hQ : ∀ σ' μ' a' w', K σ' → RRs cx σ' μ' a' w' → Q .normal a' w') :
    (Code.region id l.toArray true).wpIn (Fence.wide.inRound lp) n cx.P Q a w :=
  wpIn_region_any hm (wpAny_round hd hQo _ _ _ _ (region_drawAny (by simpa using h) hr hQ))
def mval (l : List Me) (k : K3) : Nat := match fIdx k l with
  | some i => (l[i]?.map (·.1.2.2.2)).getD 0
  | none => 0
theorem ext_mlookup {n : Nat} {o : Oper} {σ : St} {K : Eff → Prop} {m k : Operand} {i ck : Nat} {l : List Me} (c : K3) (ho : o.op = .lookup 157 m k false) (hd : dstOk n o.dst) (hm : getT σ.T m = some (.mp i)) (hk : getT σ.T k = some (keyA c.1 c.2.1 c.2.2))
    (hi : σ.H i = some (mpO l ck)) (h : K ⟨wv (mval l c : Int), [], [], [i]⟩) : extV Tryz.prog n o σ K := by
  refine ⟨_, fun cx hP hcn => ?_, h⟩
  subst hcn
  refine loc_val hd fun H T μ a w hr' he hH => ?_
  have e1 := he m _ (by simp [Op.operands, ho]) hm
  have e2 := rep_key (he k _ (by simp [Op.operands, ho]) hk)
  have hHi := (hH i (by simp)).trans hi
  have hu := Tryz.underlying157
  have hz := Tryz.zeroValue24
  generalize hpv : a.eval m = pv at e1
  cases e1 with
  | mp hb =>
    rename_i b
    cases hr'.ob i _ hHi with
    | map c1 c2 =>
      rw [hb] at c1; injection c1 with c1; injection c1 with c1; subst c1
      have hrun : (Instr.lookup 157 (.map (some b)) (vK (c.1, c.2.1, c.2.2)) false).run Tryz.prog w = .ok (vV (mval l c)) w := by
        unfold Instr.lookup
        simp only [Sem.run_bind, run_underlying hu, Result.andThen_ok, gmap c2, run_ckey, run_fkey]
        show _ = Result.ok (vV (mval l (c.1, c.2.1, c.2.2))) w
        generalize (c.1, c.2.1, c.2.2) = q
        unfold mval
        simp only [Sem.run_pure, Result.andThen_ok, List.toList_toArray, run_fkey]
        cases hf : fIdx q l with
        | none =>
          simp only [Option.bind_none, Sem.run_bind, Sem.run_pure, hz, Result.andThen_ok, Bool.false_eq_true, if_false]
          rfl
        | some i =>
          obtain ⟨hl, hk⟩ := fIdx_lt hf
          simp [List.getElem?_eq_getElem hl]
      refine ⟨_, by simp only [execOp, ho, hpv, e2, hP]; exact run_v hrun, .d .int⟩
end Go.Proofs.YtpocnjliigjidaaGreat
