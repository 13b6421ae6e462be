/- Engine, part N: steps for the walk. -/
import Derived.Test.YtokocigmchfdfaaEngM
set_option linter.unusedSimpArgs false
set_option linter.unusedVariables false
namespace Go.Proofs.Ytokocigmchfdfaa
open Go.RowKit

/-- many cells alike (not to be unfolded) -/
def repA (n : Nat) (x : AV) : List AV := List.replicate n x

def lvl : List (Nat × List Nat) → Nat → List Nat
  | [], _ => []
  | (k, L) :: l, i => if i = k then L else lvl l i

theorem opV_mono {P : Program} {n : Nat} {σ : St} {o : Oper} {K K' : Eff → Prop} (hk : ∀ e, K e → K' e) (cx : Cx) (hP : cx.P = P) (hn : cx.n = n) (h : opV P n σ o K) : ∃ e, LocOp cx σ.h.length σ.T σ.H o e ∧ K' e := by
  subst hP hn
  obtain ⟨e, h1, h2⟩ := opV_sound h
  exact ⟨e, h1, hk e h2⟩

theorem ops_nil {P : Program} {n : Nat} {ds : List (Option Tmp)} {σ : St} {K : St → Prop} (h : K σ) : opsV P n ds [] σ K := h
theorem ops_cons {P : Program} {n : Nat} {ds : List (Option Tmp)} {o : Oper} {rest : List Oper} {σ : St} {K0 : St → Prop}
    (h : ∀ K : St → Prop, (∀ σ', opsV P n ds rest σ' K0 → K σ') → gdV ds σ o (opV P n σ o fun e => wrOk σ.h.length e.wr = true ∧ K (σ.app o.dst e)) (dstOk n o.dst ∧ K (σ.app o.dst skipE))) : opsV P n ds (o :: rest) σ K0 :=
  h _ fun _ h => h
theorem opsd_nil {P : Program} {n : Nat} {ds : List (Option Tmp)} {σ : St} {acc : List Foot} {K : List Foot → St → Prop} (h : K acc σ) : opsD P n ds [] σ acc K := h
theorem opsd_cons {P : Program} {n : Nat} {ds : List (Option Tmp)} {o : Oper} {rest : List Oper} {σ : St} {acc : List Foot} {K0 : List Foot → St → Prop}
    (h : ∀ K : List Foot → St → Prop, (∀ acc' σ', opsD P n ds rest σ' acc' K0 → K acc' σ') → gdV ds σ o (opV P n σ o fun e => wrOk σ.h.length e.wr = true ∧ K (acc ++ [footE σ.h.length e]) (σ.app o.dst e)) (dstOk n o.dst ∧ K (acc ++ [footE σ.h.length skipE]) (σ.app o.dst skipE))) : opsD P n ds (o :: rest) σ acc K0 :=
  h _ fun _ _ h => h

theorem W_reg {cx : Cx} {id : Nat} {l : List Oper} {σ : St} {Q : Exit → St → Prop} (lv : List (Nat × List Nat)) (h : opsV cx.P cx.n (l.map (·.dst)) l σ fun σ' => Q .normal (σ'.keep (lvl lv id))) : W cx (.region id l.toArray false) σ Q := W_region _ h
theorem W_drw {cx : Cx} {id : Nat} {l : List Oper} {σ : St} {Q : Exit → St → Prop} (lv : List (Nat × List Nat)) (hm : cx.P.follows .mixedOrders = true)
    (h : opsD cx.P cx.n (l.map (·.dst)) l σ [] fun feet σ' => chkR l.toArray feet = true ∧ Q .normal (σ'.keep (lvl lv id))) : W cx (.region id l.toArray true) σ Q := W_draw _ hm h
theorem retV_mono {P : Program} {σ : St} : ∀ {rs : List ResultVar} {K K' : List AV → Prop}, (∀ xs, K xs → K' xs) → retV P σ rs K → retV P σ rs K'
  | [], _, _, hk, h => hk _ h
  | .tmp t :: l, _, _, hk, ⟨x, hx, h⟩ => ⟨x, hx, retV_mono (fun xs hxs => hk _ hxs) h⟩
  | .cell a t :: l, K, K', hk, ⟨p, hp, h⟩ => ⟨p, hp, by
      have ld : ∀ (ys : List AV) (F G : AV → Prop), (∀ x, F x → G x) → ldV P t ys F → ldV P t ys G := by
        rintro ys F G hfg ⟨h1, h2⟩
        refine ⟨h1, ?_⟩
        split
        · rename_i hc; rw [if_pos hc] at h2; exact ⟨h2.1, hfg _ h2.2⟩
        · rename_i hc; rw [if_neg hc] at h2; obtain ⟨x, a, b⟩ := h2; exact ⟨x, a, hfg _ b⟩
      have at_ : ∀ (F G : List AV → List Nat → Prop), (∀ ys rd, F ys rd → G ys rd) → atV σ.H p F → atV σ.H p G := by
        intro F G hfg h
        unfold atV at h ⊢
        split
        · split
          · rename_i hob; simp only [hob] at h; exact hfg _ _ h
          · rename_i hob; revert h; split <;> simp_all
        · split
          · rename_i hob; simp only [hob] at h; obtain ⟨h1, r, h2, h3⟩ := h; exact ⟨h1, r, h2, hfg _ _ h3⟩
          · rename_i hob; revert h; split <;> simp_all
        · exact hfg _ _ h
        · simp_all
      exact at_ _ _ (fun ys rd hh => ld ys _ _ (fun x hx => retV_mono (fun xs hxs => hk _ hxs) hx) hh) h⟩

/-- the end of a function, its own objects at the numbers L -/
theorem end_at {P : Program} {rs : List ResultVar} {al : Bool} {dead : List Nat} {nin : Nat} {res : AV} {outs : List Ob} {σ : St} (L : List Nat)
    (h : retV P σ rs fun xs => packA xs = res.ren (rho L σ.h.length) ∧ subH (rho L σ.h.length) σ.h (liveO dead nin 0 outs) L ∧ distinct L = true ∧ L.all (fun i => decide (i < σ.h.length)) = true ∧ fixes nin L 0 = true ∧ (al = false → flatA res ∧ flatOs outs)) :
    endV P rs al dead nin res outs σ := retV_mono (fun _ hx => ⟨L, hx⟩) h
theorem end_at0 {P : Program} {rs : List ResultVar} {al : Bool} {dead : List Nat} {res : AV} {σ : St} (h : retV P σ rs fun xs => packA xs = res.ren (rho [] σ.h.length) ∧ (al = false → flatA res)) : endV P rs al dead 0 res [] σ :=
  end_at [] (retV_mono (fun _ hx => ⟨hx.1, trivial, rfl, rfl, rfl, fun ha => ⟨hx.2 ha, trivial⟩⟩) h)
theorem endQ_ret {P : Program} {rs : List ResultVar} {al : Bool} {dead : List Nat} {nin : Nat} {res : AV} {outs : List Ob} {σ : St} (h : endV P rs al dead nin res outs σ) : endQ P rs al dead nin res outs .ret σ := h
theorem endQ_normal {P : Program} {rs : List ResultVar} {al : Bool} {dead : List Nat} {nin : Nat} {res : AV} {outs : List Ob} {σ : St} (h : endV P rs al dead nin res outs σ) : endQ P rs al dead nin res outs .normal σ := h

theorem W_condT {cx : Cx} {c : Operand} {x y : Code} {σ : St} {Q : Exit → St → Prop} (hc : getT σ.T c = some (.d (.bool true))) (h : W cx x σ Q) : W cx (.cond c x y) σ Q := W_cond hc (fun _ => h) (fun h' => by cases h')
theorem W_condF {cx : Cx} {c : Operand} {x y : Code} {σ : St} {Q : Exit → St → Prop} (hc : getT σ.T c = some (.d (.bool false))) (h : W cx y σ Q) : W cx (.cond c x y) σ Q := W_cond hc (fun h' => by cases h') (fun _ => h)

theorem call_go {P : Program} {f : FuncId} {R : Spec → Prop} (s : Spec) (hok : Ok P f s) (h : R s) : ∃ s, Ok P f s ∧ R s := ⟨s, hok, h⟩

theorem take_map_len {α β : Type} (g : α → β) (l : List α) : (l.map g).take l.length = l.map g := List.take_of_length_le (by simp)
/-- an element of a list that is encoded row by row -/
theorem idx_map {α : Type} {enc : α → List D} {l : List α} {k : Nat} {K : List D → Prop} (h : k < l.length) (hk : K (enc l[k])) : ∃ r, (l.map enc)[k]? = some r ∧ K r :=
  ⟨_, by rw [List.getElem?_map, List.getElem?_eq_getElem h]; rfl, hk⟩

/-! ### contracts that were proved otherwise -/
def scalD : D → Bool
  | .sl _ => false
  | _ => true
def valD : D → Value
  | .int k n => .int k n
  | .bool b => .bool b
  | .sl _ => undef
theorem valD_rep {w : World} {S : Nat → Prop} {x : D} {v : Value} (hs : scalD x = true) (h : RepD w S x v) : v = valD x := by
  cases h <;> first | rfl | (simp [scalD] at hs)
theorem rep_valD {w : World} {S : Nat → Prop} {x : D} (hs : scalD x = true) : RepD w S x (valD x) := by
  cases x <;> first | exact .int | exact .bool | (simp [scalD] at hs)

/-- numbers in, a number out, the world as it was -/
theorem ok_scalar {P : Program} {f : FuncId} {s : Spec} (hfn : ∃ fn : Func, P.funcs[f]? = some fn ∧ fn.body.isSome = true ∧ (fn.name == "runtime.NumGoroutine") = false)
    (h : ∀ args ins res outs, s.rel args ins res outs → ∃ (xs : List D) (y : D), args = xs.map AV.d ∧ ins = [] ∧ outs = [] ∧ res = .d y ∧ xs.all scalD = true ∧ scalD y = true ∧ ∀ w, Calls P f (xs.map valD).toArray w fun e w' => e = .returned (valD y) ∧ w = w') : Ok P f s := by
  refine ⟨hfn, ?_⟩
  intro args ins res outs hrel w V Bo μ vals hin
  obtain ⟨xs, y, rfl, rfl, rfl, rfl, hx, hy, hc⟩ := h args ins res outs hrel
  have hv : vals = (xs.map valD).toArray := by
    apply Array.ext'
    apply List.ext_getElem?
    intro j
    have hn := hin.n
    simp only [List.length_map] at hn
    simp only [List.getElem?_map]
    by_cases hj : j < xs.length
    · have hjv : j < vals.size := by omega
      have hr := hin.rep j (.d xs[j]) vals[j] (by simp [hj]) (by simp [hjv])
      cases hr with
      | d hr =>
        have := valD_rep ((List.all_eq_true.1 hx) xs[j] (List.getElem_mem hj)) hr
        simp [hj, hjv, this]
    · have hjv : ¬ j < vals.size := by omega
      simp [hj, hjv]
  subst hv
  refine (hc w).mono ?_
  rintro e w' ⟨rfl, rfl⟩
  refine ⟨_, fun _ => none, rfl, Ev.refl w Bo, fun i x hx => ?_, .d (rep_valD hy), (by simp), (fun i b _ h => by cases h), (by simp), (fun _ _ => rfl), Nat.le_refl _⟩
  rw [hin.lt i (by simp)] at hx; cases hx

/-! ### numbers that fit (side conditions by omega) -/
theorem wrapU (k : IntKind) (n : Int) (hk : k.signed = false) (h0 : 0 ≤ n) (h1 : n < 2 ^ k.bits) : k.wrap n = n := by
  cases k <;> simp_all [IntKind.wrap, IntKind.bits, IntKind.signed] <;> omega
theorem wi64 (n : Int) (h : -9223372036854775808 ≤ n ∧ n ≤ 9223372036854775807) : IntKind.i64.wrap n = n := IntWalk.i64_in n h
theorem wu8 (n : Int) (h : 0 ≤ n ∧ n ≤ 255) : IntKind.u8.wrap n = n := wrapU .u8 n rfl h.1 (by simp [IntKind.bits]; omega)
theorem wu64 (n : Int) (h : 0 ≤ n ∧ n ≤ 18446744073709551615) : IntKind.u64.wrap n = n := wrapU .u64 n rfl h.1 (by simp [IntKind.bits]; omega)
theorem wu32 (n : Int) (h : 0 ≤ n ∧ n ≤ 4294967295) : IntKind.u32.wrap n = n := wrapU .u32 n rfl h.1 (by simp [IntKind.bits]; omega)
theorem fit_i64 {n : Int} {K : Int → Prop} (h : -9223372036854775808 ≤ n ∧ n ≤ 9223372036854775807) (hk : K n) : fitV .i64 n K := by unfold fitV; rw [wi64 n h]; exact hk
theorem fit_u8 {n : Int} {K : Int → Prop} (h : 0 ≤ n ∧ n ≤ 255) (hk : K n) : fitV .u8 n K := by unfold fitV; rw [wu8 n h]; exact hk
theorem fit_u64 {n : Int} {K : Int → Prop} (h : 0 ≤ n ∧ n ≤ 18446744073709551615) (hk : K n) : fitV .u64 n K := by unfold fitV; rw [wu64 n h]; exact hk
theorem fit_u32 {n : Int} {K : Int → Prop} (h : 0 ≤ n ∧ n ≤ 4294967295) (hk : K n) : fitV .u32 n K := by unfold fitV; rw [wu32 n h]; exact hk
theorem fit_any {k : IntKind} {n : Int} {K : Int → Prop} (hk : K (k.wrap n)) : fitV k n K := hk
theorem quo_nn {a b : Int} {K : Int → Prop} (h : 0 ≤ a) (hk : K (a / b)) : quoV a b K := by unfold quoV; rw [Int.tdiv_eq_ediv_of_nonneg h]; exact hk
theorem quo_any {a b : Int} {K : Int → Prop} (hk : K (a.tdiv b)) : quoV a b K := hk
theorem rem_nn {a b : Int} {K : Int → Prop} (h : 0 ≤ a) (hk : K (a % b)) : remV a b K := by unfold remV; rw [Int.tmod_eq_emod_of_nonneg h]; exact hk
theorem rem_any {a b : Int} {K : Int → Prop} (hk : K (a.tmod b)) : remV a b K := hk
theorem sh_in {k : IntKind} {b : Int} {K : Nat → Prop} (h : b.toNat ≤ k.bits) (hk : K b.toNat) : shV k b K := by unfold shV shN; rw [Nat.min_eq_left h]; exact hk
theorem sh_any {k : IntKind} {b : Int} {K : Nat → Prop} (hk : K (shN k b)) : shV k b K := hk

attribute [go_sem] take_map_len List.take_length Nat.le_refl Int.toNat_natCast List.length_map IntKind.signed IntKind.bits gdV opV snapV builtinV lendA lendAs insV AV.into intoL posJ rhoJ wrJ lendE liveO sl2V apI sl3V apZ capV cpK cpV clV lenA withO_some getT gets getP look avOf dstOk St.T St.H St.app wrH wrOk skipE footE resE AV.ren renL Ob.ren cellsA atV ldV stV faV iaV binV cmpV ncmpV eqP unV mmV lenV fieldV nilcV optI sliV mkV bsV apV srcV toD chunks fillA plOf buildV splice snap1 snapL snapA snapAs kindsOf thenQ blockQ keepT St.keep lvl retV packA argT List.map_cons List.map_nil List.length_cons List.length_nil List.getElem?_cons_zero List.getElem?_cons_succ List.getElem?_nil List.drop_zero List.drop_succ_cons List.drop_nil List.take_zero List.take_succ_cons List.take_nil List.nil_append List.cons_append List.append_nil List.set_cons_zero List.set_cons_succ List.mapM_cons List.mapM_nil List.toList_toArray Option.join_some Option.join_none Option.bind_some Option.bind_none Option.map_some Option.map_none Option.pure_def Option.bind_eq_bind Option.some.injEq Nat.zero_add Nat.add_zero true_and and_true Bool.true_and Bool.and_true if_true if_false Bool.not_true Bool.not_false exists_eq_left' exists_eq_left exists_eq_right exists_eq exists_eq' forall_const  implies_true true_implies false_implies Bool.false_eq_true List.append_assoc List.range' List.flatten_cons List.flatten_nil List.replicate_succ List.replicate_zero and_self Nat.add_eq not_true_eq_false not_false_eq_true decide_eq_true_eq decide_eq_false_iff_not flatA flatL flatD flatO flatOs rho subH subT distinct fixes List.all_cons List.all_nil List.contains_cons List.contains_nil Bool.or_false Bool.or_true Bool.false_or Bool.true_or Sub List.getD_cons_zero
end Go.Proofs.Ytokocigmchfdfaa
