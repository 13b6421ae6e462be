/- Engine, part F2: a call to which objects are lent. -/
import Derived.Test.YtokocigmchfdfaaEngF
set_option linter.unusedSimpArgs false
set_option linter.unusedVariables false
namespace Go.Proofs.Ytokocigmchfdfaa
open Go.RowKit

def distinct : List Nat → Bool
  | [] => true
  | x :: l => !l.contains x && distinct l
theorem distinct_inj : ∀ {L : List Nat}, distinct L = true → ∀ (i j x : Nat), L[i]? = some x → L[j]? = some x → i = j
  | [], _, i, j, x, h, _ => by simp at h
  | y :: L, hd, i, j, x, hi, hj => by
    simp only [distinct, Bool.and_eq_true, Bool.not_eq_true', List.contains_eq_mem, decide_eq_false_iff_not] at hd
    cases i with
    | zero =>
      cases j with
      | zero => rfl
      | succ j =>
        simp at hi hj; subst hi
        exact absurd (List.mem_of_getElem? hj) hd.1
    | succ i =>
      cases j with
      | zero =>
        simp at hi hj; subst hj
        exact absurd (List.mem_of_getElem? hi) hd.1
      | succ j =>
        simp at hi hj
        rw [distinct_inj hd.2 i j x hi hj]

def posJ : List Nat → Nat → Nat → Option Nat
  | [], _, _ => none
  | x :: J, i, k => if i = x then some k else posJ J i (k + 1)
theorem posJ_get : ∀ (J : List Nat) (i k q : Nat), posJ J i k = some q → k ≤ q ∧ J[q - k]? = some i
  | [], i, k, q, h => by simp [posJ] at h
  | x :: J, i, k, q, h => by
    simp only [posJ] at h
    split at h
    · rename_i e; subst e; injection h with h; subst h; simp
    · obtain ⟨h1, h2⟩ := posJ_get J i (k + 1) q h
      refine ⟨by omega, ?_⟩
      have : q - k = (q - (k + 1)) + 1 := by omega
      rw [this]; simpa using h2

mutual
def AV.into (J : List Nat) : AV → Option AV
  | .d x => some (.d x)
  | .ptr i off => (posJ J i 0).map (AV.ptr · off)
  | .ep i sz idx k => (posJ J i 0).map (AV.ep · sz idx k)
  | .dp r => some (.dp r)
  | .row i sz o len => (posJ J i 0).map (AV.row · sz o len)
  | .sub i sz o len => (posJ J i 0).map (AV.sub · sz o len)
  | .nil => some .nil
  | .nilp => some .nilp
  | .fn f caps => (intoL J caps).map (AV.fn f ·)
  | .agg cs => (intoL J cs).map (AV.agg ·)
  | .tup _ => none
  | .tf p q => some (.tf p q)
  | .any => some .any
def intoL (J : List Nat) : List AV → Option (List AV)
  | [] => some []
  | x :: l => (x.into J).bind fun y => (intoL J l).map (y :: ·)
end

theorem intoL_get (J : List Nat) : ∀ (l m : List AV), intoL J l = some m → m.length = l.length ∧ ∀ (j : Nat) (x y : AV), l[j]? = some x → m[j]? = some y → x.into J = some y
  | [], m, h => by simp [intoL] at h; subst h; simp
  | a :: l, m, h => by
    simp only [intoL, Option.bind_eq_some_iff, Option.map_eq_some_iff] at h
    obtain ⟨b, h1, m', h2, rfl⟩ := h
    obtain ⟨h3, h4⟩ := intoL_get J l m' h2
    refine ⟨by simp [h3], fun j x y hx hy => ?_⟩
    cases j with
    | zero => simp at hx hy; subst hx hy; exact h1
    | succ j => simp at hx hy; exact h4 j x y hx hy

def muJ (J : List Nat) (μ : Mu) : Mu := fun k => match J[k]? with | some j => μ j | none => none
theorem muJ_at {J : List Nat} {μ : Mu} {k j : Nat} (h : J[k]? = some j) : muJ J μ k = μ j := by simp [muJ, h]
theorem muJ_pos {J : List Nat} {μ : Mu} {i q : Nat} (h : posJ J i 0 = some q) : muJ J μ q = μ i := by
  have := (posJ_get J i 0 q h).2
  rw [Nat.sub_zero] at this
  exact muJ_at this

theorem Rep.into {w : World} {S : Nat → Prop} {μ : Mu} {J : List Nat} {x : AV} {v : Value} (h : Rep w S μ x v) : ∀ y, x.into J = some y → Rep w S (muJ J μ) y v := by
  induction h with
  | d h => intro y hy; simp [AV.into] at hy; subst hy; exact .d h
  | ptr h => intro y hy; simp only [AV.into, Option.map_eq_some_iff] at hy; obtain ⟨k, hk, rfl⟩ := hy; exact .ptr ((muJ_pos hk).trans h)
  | ep h => intro y hy; simp only [AV.into, Option.map_eq_some_iff] at hy; obtain ⟨k, hk, rfl⟩ := hy; exact .ep ((muJ_pos hk).trans h)
  | dp f a b c => intro y hy; simp [AV.into] at hy; subst hy; exact .dp f a b c
  | rowNil h => intro y hy; simp only [AV.into, Option.map_eq_some_iff] at hy; obtain ⟨k, hk, rfl⟩ := hy; exact .rowNil ((muJ_pos hk).trans h)
  | row h1 h2 h3 h4 h5 => intro y hy; simp only [AV.into, Option.map_eq_some_iff] at hy; obtain ⟨k, hk, rfl⟩ := hy; exact .row ((muJ_pos hk).trans h1) h2 h3 h4 h5
  | subNil => intro y hy; simp only [AV.into, Option.map_eq_some_iff] at hy; obtain ⟨k, hk, rfl⟩ := hy; exact .subNil
  | sub h1 h2 h3 => intro y hy; simp only [AV.into, Option.map_eq_some_iff] at hy; obtain ⟨k, hk, rfl⟩ := hy; exact .sub ((muJ_pos hk).trans h1) h2 h3
  | nil => intro y hy; simp [AV.into] at hy; subst hy; exact .nil
  | nilp => intro y hy; simp [AV.into] at hy; subst hy; exact .nilp
  | fn h1 _ ih =>
    intro y hy; simp only [AV.into, Option.map_eq_some_iff] at hy
    obtain ⟨m, hm, rfl⟩ := hy
    obtain ⟨hl, hg⟩ := intoL_get J _ m hm
    refine .fn (by omega) (fun j y v hy hv => ?_)
    have hj : j < m.length := (List.getElem?_eq_some_iff.1 hy).1
    exact ih j _ v (List.getElem?_eq_getElem (hl ▸ hj)) hv y (hg j _ y (List.getElem?_eq_getElem (hl ▸ hj)) hy)
  | agg h1 _ h3 ih =>
    intro y hy; simp only [AV.into, Option.map_eq_some_iff] at hy
    obtain ⟨m, hm, rfl⟩ := hy
    obtain ⟨hl, hg⟩ := intoL_get J _ m hm
    refine .agg (by omega) (fun j y v hy hv => ?_) h3
    have hj : j < m.length := (List.getElem?_eq_some_iff.1 hy).1
    exact ih j _ v (List.getElem?_eq_getElem (hl ▸ hj)) hv y (hg j _ y (List.getElem?_eq_getElem (hl ▸ hj)) hy)
  | tup => intro y hy; simp [AV.into] at hy
  | tf h1 h2 => intro y hy; simp [AV.into] at hy; subst hy; exact .tf h1 h2
  | any => intro y hy; simp [AV.into] at hy; subst hy; exact .any

def lendA (J : List Nat) (H : Nat → Option Ob) (x : AV) (K : AV → List Nat → Prop) : Prop :=
  match x with
  | .nil => K (.d (.sl [])) []
  | x => match x.into J with
    | some y => K y []
    | none => snapA H x K
def lendAs (J : List Nat) (H : Nat → Option Ob) (l : List AV) (K : List AV → List Nat → Prop) : Prop :=
  match l with
  | [] => K [] []
  | x :: l => lendA J H x fun y a => lendAs J H l fun m b => K (y :: m) (a ++ b)
def Lends (J : List Nat) (hs : Nat → Option Ob) (x y : AV) (rd : List Nat) : Prop := x.into J = some y ∨ Snaps hs x y rd

theorem lendA_rep {J : List Nat} {hs : Nat → Option Ob} {x : AV} {K : AV → List Nat → Prop} (h : lendA J hs x K) : ∃ y rd, K y rd ∧ Lends J hs x y rd := by
  unfold lendA at h
  split at h
  · exact ⟨_, _, h, .inr fun cx H T μ a w V' v μ0 hr hV hH hVr hx => by cases hx; exact .d .nil⟩
  · split at h
    · rename_i y hy; exact ⟨_, _, h, .inl hy⟩
    · obtain ⟨y, rd, h1, h2⟩ := snapA_rep h
      exact ⟨y, rd, h1, .inr h2⟩
theorem lendAs_rep {J : List Nat} {hs : Nat → Option Ob} : ∀ {l : List AV} {K : List AV → List Nat → Prop}, lendAs J hs l K → ∃ m rd, K m rd ∧ m.length = l.length ∧ ∀ (j : Nat) (x y : AV), l[j]? = some x → m[j]? = some y → ∃ rd', (∀ i, i ∈ rd' → i ∈ rd) ∧ Lends J hs x y rd'
  | [], K, h => ⟨[], [], h, rfl, by simp⟩
  | x :: l, K, h => by
    obtain ⟨y, a, h, h1⟩ := lendA_rep h
    obtain ⟨m, b, h, h2, h3⟩ := lendAs_rep h
    refine ⟨_, _, h, by simp [h2], fun j x' y' hx hy => ?_⟩
    cases j with
    | zero => simp at hx hy; subst hx hy; exact ⟨a, fun i hi => by simp [hi], h1⟩
    | succ j =>
      simp at hx hy
      obtain ⟨rd', u1, u2⟩ := h3 j x' y' hx hy
      exact ⟨rd', fun i hi => by simp [u1 i hi], u2⟩

/-- the objects lent, as the callee sees them -/
def insV (J : List Nat) (H : Nat → Option Ob) : List Nat → (List Ob → Prop) → Prop
  | [], K => K []
  | i :: l, K => match H i with
    | some (.box t cs) => ∃ cs', intoL J cs = some cs' ∧ insV J H l fun os => K (.box t cs' :: os)
    | some (.rows t sz rs) => insV J H l fun os => K (.rows t sz rs :: os)
    | none => False
def IntoO (J : List Nat) (hs : Nat → Option Ob) (j : Nat) (o : Ob) : Prop :=
  (∃ t cs cs', hs j = some (.box t cs) ∧ intoL J cs = some cs' ∧ o = .box t cs') ∨ (∃ t sz rs, hs j = some (.rows t sz rs) ∧ o = .rows t sz rs)
theorem insV_rep {J : List Nat} {hs : Nat → Option Ob} : ∀ {l : List Nat} {K : List Ob → Prop}, insV J hs l K → ∃ ins, K ins ∧ ins.length = l.length ∧ ∀ (k j : Nat) (o : Ob), l[k]? = some j → ins[k]? = some o → IntoO J hs j o
  | [], K, h => ⟨[], h, rfl, by simp⟩
  | i :: l, K, h => by
    simp only [insV] at h
    split at h
    · rename_i t cs hi
      obtain ⟨cs', h1, h⟩ := h
      obtain ⟨ins, h2, h3, h4⟩ := insV_rep h
      refine ⟨_, h2, by simp [h3], fun k j o hk ho => ?_⟩
      cases k with
      | zero => simp at hk ho; subst hk ho; exact .inl ⟨t, cs, cs', hi, h1, rfl⟩
      | succ k => simp at hk ho; exact h4 k j o hk ho
    · rename_i t sz rs hi
      obtain ⟨ins, h2, h3, h4⟩ := insV_rep h
      refine ⟨_, h2, by simp [h3], fun k j o hk ho => ?_⟩
      cases k with
      | zero => simp at hk ho; subst hk ho; exact .inr ⟨t, sz, rs, hi, rfl⟩
      | succ k => simp at hk ho; exact h4 k j o hk ho
    · exact h.elim

def rhoJ (n0 : Nat) (J : List Nat) (k : Nat) : Nat := match J[k]? with | some j => j | none => n0 + (k - J.length)
def wrJ (ρ : Nat → Nat) (dead : List Nat) : List Nat → List Ob → Nat → List (Nat × Option Ob)
  | j :: J, o :: outs, k => (j, if dead.contains k = true then none else some (o.ren ρ)) :: wrJ ρ dead J outs (k + 1)
  | _, _, _ => []
def lendE (n0 : Nat) (J : List Nat) (dead : List Nat) (res : AV) (outs : List Ob) (rd : List Nat) : Eff :=
  ⟨res.ren (rhoJ n0 J), (outs.drop J.length).map (Ob.ren (rhoJ n0 J)), wrJ (rhoJ n0 J) dead J outs 0, J ++ rd⟩

theorem wrJ_none {ρ : Nat → Nat} {dead : List Nat} {i : Nat} : ∀ {J : List Nat} {outs : List Ob} {q : Nat}, i ∉ J → (wrJ ρ dead J outs q).find? (fun p => p.1 == i) = none
  | [], _, _, _ => by simp [wrJ]
  | _ :: _, [], _, _ => by simp [wrJ]
  | j :: J, o :: outs, q, h => by
    simp only [List.mem_cons, not_or] at h
    have : (j == i) = false := by simp; exact fun e => h.1 e.symm
    simp only [wrJ, List.find?_cons, this]
    exact wrJ_none h.2
theorem wrJ_some {ρ : Nat → Nat} {dead : List Nat} {i : Nat} {o : Ob} : ∀ {J : List Nat} {outs : List Ob} {q k : Nat}, distinct J = true → J[k]? = some i → outs[k]? = some o →
    (wrJ ρ dead J outs q).find? (fun p => p.1 == i) = some (i, if dead.contains (q + k) = true then none else some (o.ren ρ))
  | [], _, _, _, _, h, _ => by simp at h
  | _ :: _, [], _, _, _, _, h => by simp at h
  | j :: J, o' :: outs, q, k, hd, hk, ho => by
    cases k with
    | zero => simp at hk ho; subst hk ho; simp [wrJ, List.find?_cons]
    | succ k =>
      have hne : (j == i) = false := by
        simp
        rintro rfl
        have := distinct_inj hd 0 (k + 1) j (by simp) (by simpa using hk)
        omega
      simp at hk ho
      simp only [wrJ, List.find?_cons, hne]
      simp only [distinct, Bool.and_eq_true] at hd
      have := wrJ_some (ρ := ρ) (dead := dead) (q := q + 1) hd.2 hk ho
      rw [this, show q + 1 + k = q + (k + 1) by omega]

theorem loc_lend {cx : Cx} {n0 : Nat} {ts : Nat → Option AV} {hs : Nat → Option Ob} {o : Oper} {f : FuncId} {s : Spec} {xs ys caps : List AV} {J rd : List Nat} {ins : List Ob} {res : AV} {outs : List Ob} {c : Call} {g : Operand} (hd : dstOk cx.n o.dst)
    (ho : o.op = .call c) (hc : c.callee = .value g) (hg : getT ts g = some (.fn f caps)) (hx : gets ts c.args.toList = some xs)
    (hys : ys.length = (xs ++ caps).length ∧ ∀ (j : Nat) (x y : AV), (xs ++ caps)[j]? = some x → ys[j]? = some y → ∃ rd', (∀ i, i ∈ rd' → i ∈ rd) ∧ Lends J hs x y rd')
    (hins : ins.length = J.length ∧ ∀ (k j : Nat) (ob : Ob), J[k]? = some j → ins[k]? = some ob → IntoO J hs j ob)
    (hJ : distinct J = true) (hdis : ∀ i, i ∈ rd → i ∉ J) (hal : s.al = true → rd = []) (hbody : ∃ fn : Func, cx.P.funcs[f]? = some fn ∧ fn.body.isSome = true ∧ (fn.name == "runtime.NumGoroutine") = false)
    (hok : SpecOK cx.P f s) (hrel : s.rel ys ins res outs) : LocOp cx n0 ts hs o (lendE n0 J s.dead res outs rd) := by
  intro H T μ a w K Q hr hT hH hn hk
  obtain ⟨gl, gg⟩ := gets_get hx
  have hgv := hr.eval (fun t ht => hT t (by simp [Op.operands, ho, Call.operands, hc, ht])) hg
  generalize hgv' : a.eval g = gv at hgv
  cases hgv with
  | fn cs1 cs2 =>
    rename_i vs
    have hHJ : ∀ j, j ∈ J → H j = hs j := fun j hj => hH j (.inl (by simp [lendE, hj]))
    have hHr : ∀ i, i ∈ rd → H i = hs i := fun i hi => hH i (.inl (by simp [lendE, hi]))
    have live : ∀ j, j ∈ J → H j ≠ none ∧ ∃ y, μ j = some y := by
      intro j hj
      obtain ⟨k, hkk⟩ := List.getElem?_of_mem hj
      have hklt : k < ins.length := by rw [hins.1]; exact (List.getElem?_eq_some_iff.1 hkk).1
      have hi := hins.2 k j _ hkk (List.getElem?_eq_getElem hklt)
      have hne : ∃ ob, H j = some ob := by
        rw [hHJ j hj]
        rcases hi with ⟨t, cs, _, h1, _⟩ | ⟨t, sz, rs, h1, _⟩
        · exact ⟨_, h1⟩
        · exact ⟨_, h1⟩
      obtain ⟨ob, hob⟩ := hne
      refine ⟨by rw [hob]; simp, ?_⟩
      have := hr.ob j ob hob
      cases this with
      | box h1 => exact ⟨_, h1⟩
      | rowsNil h1 => exact ⟨_, h1⟩
      | rows h1 => exact ⟨_, h1⟩
    let Bo : Nat → Prop := fun b => ∃ j, j ∈ J ∧ μ j = some (some b)
    let V' : Nat → Prop := fun b => if s.al = true then cx.Sta H μ w b else b < w.heap.size ∧ ¬ Bo b
    have hBoS : ∀ b, Bo b → ¬ cx.Sta H μ w b := by
      rintro b ⟨j, hj, hb⟩
      exact hr.notSta (live j hj).1 hb
    have hV : ∀ b, cx.Sta H μ w b → V' b := by
      intro b hb
      by_cases h : s.al = true
      · simp only [V', if_pos h]; exact hb
      · simp only [V', if_neg h]; exact ⟨hr.staLt hb, fun h' => hBoS b h' hb⟩
    have hVlt : ∀ b, V' b → b < w.heap.size ∧ ¬ Bo b := by
      intro b hb
      by_cases h : s.al = true
      · simp only [V', if_pos h] at hb; exact ⟨hr.staLt hb, fun h' => hBoS b h' hb⟩
      · simpa only [V', if_neg h] using hb
    have hVr : ∀ i b, i ∈ rd → H i ≠ none → μ i = some (some b) → V' b := by
      intro i b hi hne hb
      by_cases h : s.al = true
      · rw [hal h] at hi; cases hi
      · simp only [V', if_neg h]
        refine ⟨(hr.own i b hne hb).2, ?_⟩
        rintro ⟨j, hj, hb'⟩
        have := hr.inj i j b hne (live j hj).1 hb hb'
        subst this
        exact hdis i hi hj
    have hev0 := Ev.refl w (fun _ => False)
    have arg : ∀ (j : Nat) (x y : AV) (v : Value), (xs ++ caps)[j]? = some x → ys[j]? = some y → Rep w (cx.Sta H μ w) μ x v → Rep w V' (muJ J μ) y v := by
      intro j x y v hxj hyj hrep
      obtain ⟨rd', u1, u2 | u2⟩ := hys.2 j x y hxj hyj
      · exact (hrep.into y u2).evolve hev0 (fun _ h => h.elim) hV (fun _ _ h => h)
      · exact u2 cx H T μ a w V' v (muJ J μ) hr hV (fun i hi => hHr i (u1 i hi)) (fun i b hi hne hb => hVr i b (u1 i hi) hne hb) hrep
    have hin : In V' Bo (muJ J μ) w ys ins (#[] ++ c.args.map a.eval ++ vs) := by
      have hsz : c.args.size = xs.length := by simp at gl; omega
      have hyl := hys.1
      simp only [List.length_append] at hyl
      refine ⟨hVlt, ?_, fun j y v hy hv => ?_, fun k ob hkob => ?_, fun k b hklt hb => ?_, ?_, fun k k' b hkl hkl' hb hb' => ?_, fun i hi => ?_⟩
      · simp; omega
      · by_cases hj : j < xs.length
        · have hj' : j < c.args.size := by omega
          have hv' : v = a.eval c.args[j] := by
            rw [Array.getElem?_append_left (by simp; omega)] at hv
            simpa [hj'] using hv.symm
          refine arg j xs[j] y v (by rw [List.getElem?_append_left hj]; exact List.getElem?_eq_getElem hj) hy ?_
          rw [hv']
          exact hr.eval (fun t ht => hT t (by simp [Op.operands, ho, Call.operands, hc, ← ht])) (gg j _ _ (by simp [hj']) (List.getElem?_eq_getElem hj))
        · have hjx : j - xs.length < caps.length := by
            have := (List.getElem?_eq_some_iff.1 hy).1
            omega
          rw [Array.getElem?_append_right (by simp; omega)] at hv
          refine arg j caps[j - xs.length] y v (by rw [List.getElem?_append_right (by omega)]; exact List.getElem?_eq_getElem hjx) hy ?_
          have e : j - (#[] ++ c.args.map a.eval).size = j - xs.length := by simp; omega
          rw [e] at hv
          exact cs2 _ _ v (List.getElem?_eq_getElem hjx) hv
      · have hklt : k < J.length := by rw [← hins.1]; exact (List.getElem?_eq_some_iff.1 hkob).1
        have hJk : J[k]? = some J[k] := List.getElem?_eq_getElem hklt
        have hmem : J[k] ∈ J := List.getElem_mem hklt
        have hm := muJ_at (μ := μ) hJk
        rcases hins.2 k J[k] ob hJk hkob with ⟨t, cs, cs', h1, h2, rfl⟩ | ⟨t, sz, rs, h1, rfl⟩
        · have hob := hr.ob J[k] _ ((hHJ _ hmem).trans h1)
          obtain ⟨il, ig⟩ := intoL_get J cs cs' h2
          cases hob with
          | box u1 u2 u3 u4 u5 =>
            refine .box (hm.trans u1) u2 (by omega) (fun j x v hxj hv => ?_) u5
            have hj : j < cs'.length := (List.getElem?_eq_some_iff.1 hxj).1
            have hj' : j < cs.length := by omega
            exact ((u4 j cs[j] v (List.getElem?_eq_getElem hj') hv).into x (ig j _ x (List.getElem?_eq_getElem hj') hxj)).evolve hev0 (fun _ h => h.elim) hV (fun _ _ h => h)
        · have hob := hr.ob J[k] _ ((hHJ _ hmem).trans h1)
          cases hob with
          | rowsNil u1 u2 => exact .rowsNil (hm.trans u1) u2
          | rows u1 u2 u3 u4 u5 u6 => exact .rows (hm.trans u1) u2 u3 u4 u5 (fun k j r x v hrr hxx hv => (u6 k j r x v hrr hxx hv).evolve hev0 (fun _ h => h.elim) hV)
      · have hklt' : k < J.length := by omega
        rw [muJ_at (List.getElem?_eq_getElem hklt')] at hb
        exact ⟨J[k], List.getElem_mem hklt', hb⟩
      · rintro b ⟨j, hj, hb⟩
        obtain ⟨k, hkk⟩ := List.getElem?_of_mem hj
        exact ⟨k, by rw [hins.1]; exact (List.getElem?_eq_some_iff.1 hkk).1, (muJ_at hkk).trans hb⟩
      · have l1 : k < J.length := by omega
        have l2 : k' < J.length := by omega
        have g1 : J[k]? = some J[k] := List.getElem?_eq_getElem l1
        have g2 : J[k']? = some J[k'] := List.getElem?_eq_getElem l2
        rw [muJ_at g1] at hb
        rw [muJ_at g2] at hb'
        have := hr.inj _ _ b (live _ (List.getElem_mem l1)).1 (live _ (List.getElem_mem l2)).1 hb hb'
        rw [← this] at g2
        exact distinct_inj hJ k k' _ g1 g2
      · have : J[i]? = none := List.getElem?_eq_none (by omega)
        simp [muJ, this]
    have hrun : (execOp a.eval o).run cx.P w = .ok (.enter f (#[] ++ c.args.map a.eval ++ vs)) w := by
      obtain ⟨fn, f1, f2, f3⟩ := hbody
      have f4 : fn.body.isNone = false := by cases hb : fn.body <;> simp_all
      simp only [execOp, ho, resolve, hc, hgv', Deferred.ofValue, invoke, callFunc, Sem.run_bind, Sem.run_pure, Result.andThen_ok, run_program, f1, f3, f4]
      rfl
    unfold Oper.wp
    rw [hrun]
    simp only [Oper.upon]
    refine (hok _ ins res outs hrel w V' Bo (muJ J μ) _ hin).mono ?_
    rintro e w' ⟨v, μ', rfl, ho'⟩
    obtain ⟨m, hm⟩ : ∃ m, m = J.length := ⟨_, rfl⟩
    have him : ins.length = m := by rw [hins.1, hm]
    rw [him] at ho'
    have hmo : m ≤ outs.length := ho'.le
    let μ2 : Mu := fun i => if n0 ≤ i ∧ i < n0 + (outs.length - m) then μ' (m + (i - n0)) else μ i
    have hnl : (lendE n0 J s.dead res outs rd).news.length = outs.length - m := by simp [lendE, hm]
    have hin2 : ∀ i, n0 ≤ i ∧ i < n0 + (outs.length - m) → μ i = none := by
      rintro i ⟨h1, h2⟩
      have := hn (i - n0) (by rw [hnl]; omega)
      rwa [Nat.add_sub_cancel' h1] at this
    have hμ : ∀ i x, μ i = some x → μ2 i = some x := by
      intro i x hx
      have : ¬ (n0 ≤ i ∧ i < n0 + (outs.length - m)) := fun h => by rw [hin2 i h] at hx; cases hx
      simp only [μ2, if_neg this, hx]
    have hJnew : ∀ j, j ∈ J → ¬ (n0 ≤ j ∧ j < n0 + (outs.length - m)) := by
      intro j hj h
      obtain ⟨y, hy⟩ := (live j hj).2
      rw [hin2 j h] at hy; cases hy
    let H2 := appH n0 (lendE n0 J s.dead res outs rd) H
    have hA : ∀ i, n0 ≤ i ∧ i < n0 + (outs.length - m) → H2 i = (outs[m + (i - n0)]?).map (Ob.ren (rhoJ n0 J)) := by
      intro i hi
      have : n0 ≤ i ∧ i < n0 + (lendE n0 J s.dead res outs rd).news.length := by rw [hnl]; exact hi
      simp only [H2, appH, if_pos this]
      simp only [lendE, List.getElem?_map, List.getElem?_drop, hm]
    have hB : ∀ k i ob, J[k]? = some i → outs[k]? = some ob → H2 i = if s.dead.contains k = true then none else some (ob.ren (rhoJ n0 J)) := by
      intro k i ob hki hko
      have : ¬ (n0 ≤ i ∧ i < n0 + (lendE n0 J s.dead res outs rd).news.length) := by rw [hnl]; exact hJnew i (List.mem_of_getElem? hki)
      have hf := wrJ_some (ρ := rhoJ n0 J) (dead := s.dead) (q := 0) hJ hki hko
      have hw : (lendE n0 J s.dead res outs rd).wlook i = some (if s.dead.contains k = true then none else some (ob.ren (rhoJ n0 J))) := by simp only [Eff.wlook, lendE, hf, Option.map_some, Nat.zero_add]
      simp only [H2, appH, if_neg this, hw]
    have hC : ∀ i, ¬ (n0 ≤ i ∧ i < n0 + (outs.length - m)) → i ∉ J → H2 i = H i := by
      intro i hi hij
      have : ¬ (n0 ≤ i ∧ i < n0 + (lendE n0 J s.dead res outs rd).news.length) := by rw [hnl]; exact hi
      have hf := wrJ_none (ρ := rhoJ n0 J) (dead := s.dead) (outs := outs) (q := 0) hij
      have hw : (lendE n0 J s.dead res outs rd).wlook i = none := by simp only [Eff.wlook, lendE, hf, Option.map_none]
      simp only [H2, appH, if_neg this, hw]
    have hev : Ev w w' Bo := ho'.ev
    have hold : ∀ k j, J[k]? = some j → μ' k = μ j := by
      intro k j hkj
      obtain ⟨y, hy⟩ := (live j (List.mem_of_getElem? hkj)).2
      rw [ho'.mu k y ((muJ_at hkj).trans hy), hy]
    have hren : ∀ k y, μ' k = some y → μ2 (rhoJ n0 J k) = some y := by
      intro k y hy
      by_cases hkm : k < m
      · have hkj : J[k]? = some J[k] := List.getElem?_eq_getElem (by omega)
        have e : rhoJ n0 J k = J[k] := by simp [rhoJ, hkj]
        rw [e]
        have hj := hJnew _ (List.getElem_mem (show k < J.length by omega))
        simp only [μ2, if_neg hj]
        rw [← hold k _ hkj]; exact hy
      · have hko : k < outs.length := by
          rcases Nat.lt_or_ge k outs.length with h | h
          · exact h
          · rw [ho'.lt k h] at hy; cases hy
        have e : rhoJ n0 J k = n0 + (k - m) := by
          have : J[k]? = none := List.getElem?_eq_none (by omega)
          simp [rhoJ, this, hm]
        rw [e]
        have e2 : m + (n0 + (k - m) - n0) = k := by omega
        simp only [μ2, if_pos (show n0 ≤ n0 + (k - m) ∧ n0 + (k - m) < n0 + (outs.length - m) by omega), e2, hy]
    have hSta : ∀ b, outS s.al V' w w' μ' outs.length b → cx.Sta H2 μ2 w' b := by
      intro b hb
      rcases hb with ⟨hal', hb⟩ | ⟨h1, h2, h3⟩
      · have hb' : cx.Sta H μ w b := by simpa only [V', if_pos hal'] using hb
        have hblt := hr.staLt hb'
        rcases hb' with hv | ⟨u1, u2, u3, u4⟩
        · exact .inl hv
        · refine .inr ⟨u1, Nat.lt_of_lt_of_le u2 hev.size, u3, fun i hi he => ?_⟩
          by_cases hni : n0 ≤ i ∧ i < n0 + (outs.length - m)
          · simp only [μ2, if_pos hni] at he
            rcases ho'.new _ b (by omega) he with ⟨h7 | ⟨k, h7, _, h8⟩, _⟩
            · omega
            · rw [muJ_at (List.getElem?_eq_getElem (show k < J.length by omega))] at h8
              exact u4 _ (live _ (List.getElem_mem _)).1 h8
          · simp only [μ2, if_neg hni] at he
            by_cases hij : i ∈ J
            · exact u4 i (live i hij).1 he
            · rw [hC i hni hij] at hi; exact u4 i hi he
      · refine .inr ⟨Nat.le_trans hr.fr.size h1, h2, fun hbo => ?_, fun i hi he => ?_⟩
        · have := hr.blt b hbo; have := hr.fr.size; omega
        · by_cases hni : n0 ≤ i ∧ i < n0 + (outs.length - m)
          · simp only [μ2, if_pos hni] at he
            exact h3 _ (by omega) he
          · simp only [μ2, if_neg hni] at he
            by_cases hij : i ∈ J
            · have := (hr.own i b (live i hij).1 he).2; omega
            · rw [hC i hni hij] at hi
              have := (hr.own i b hi he).2; omega
    have ev1 := Ev.refl w' (fun _ => False)
    have key := (hr.step (H' := H2) (μ' := μ2) (fun i => i ∈ J) hev (fun b ⟨j, hj, hb⟩ => ⟨j, hj, (live j hj).1, hb⟩) hμ
      (fun i hi hij => hC i (fun h => hi (hin2 i h)) hij) (fun i _ hij _ => (live i hij).1)
      (fun i b h1 h2 => by
        by_cases hni : n0 ≤ i ∧ i < n0 + (outs.length - m)
        · simp only [μ2, if_pos hni] at h2
          rcases ho'.new _ b (by omega) h2 with ⟨h7 | ⟨k, h7, h9, h8⟩, h10⟩
          · exact .inl ⟨h7, h10⟩
          · have hkj : J[k]? = some J[k] := List.getElem?_eq_getElem (by omega)
            rw [muJ_at hkj] at h8
            refine .inr ⟨J[k], (live _ (List.getElem_mem _)).1, ?_, h8⟩
            rw [hB k _ _ hkj (List.getElem?_eq_getElem (show k < outs.length by omega)), if_pos (by simpa using h9)]
        · simp only [μ2, if_neg hni] at h2; rw [h1] at h2; cases h2)
      (fun i j b h1 h2 h3 h4 => by
        by_cases hni : n0 ≤ i ∧ i < n0 + (outs.length - m)
        · by_cases hnj : n0 ≤ j ∧ j < n0 + (outs.length - m)
          · simp only [μ2, if_pos hni] at h3
            simp only [μ2, if_pos hnj] at h4
            have := ho'.inj _ _ b (by omega) (by omega) (.inl (by omega)) (.inl (by omega)) h3 h4; omega
          · simp only [μ2, if_neg hnj] at h4; rw [h2] at h4; cases h4
        · simp only [μ2, if_neg hni] at h3; rw [h1] at h3; cases h3)
      (fun i ob hor hob => by
        have fin : ∀ k q, outs[k]? = some q → (m ≤ k ∨ k ∉ s.dead) → rhoJ n0 J k = i → ob = q.ren (rhoJ n0 J) → ObRep w' (cx.Sta H2 μ2 w') μ2 i ob := by
          rintro k q hq hdk rfl rfl
          exact ((ho'.ob k q hq hdk).evolve ev1 (fun _ h => h.elim) hSta (fun _ _ h => h) (fun _ _ h => h)).ren hren
        by_cases hij : i ∈ J
        · obtain ⟨k, hkk⟩ := List.getElem?_of_mem hij
          have hkm : k < J.length := (List.getElem?_eq_some_iff.1 hkk).1
          have hko : outs[k]? = some outs[k] := List.getElem?_eq_getElem (by omega)
          rw [hB k i _ hkk hko] at hob
          split at hob
          · cases hob
          · rename_i hdk
            injection hob with hob
            exact fin k _ hko (.inr (by simpa using hdk)) (by simp [rhoJ, hkk]) hob.symm
        · rcases hor with hf | hmn
          · exact absurd hf hij
          · by_cases hni : n0 ≤ i ∧ i < n0 + (outs.length - m)
            · rw [hA i hni] at hob
              cases hq : outs[m + (i - n0)]? with
              | none => simp [hq] at hob
              | some q =>
                simp [hq] at hob
                refine fin _ q hq (.inl (by omega)) ?_ hob.symm
                have : J[m + (i - n0)]? = none := List.getElem?_eq_none (by omega)
                simp only [rhoJ, this]; omega
            · rw [hC i hni hij] at hob
              exact absurd (hr.ob i ob hob) (fun hr => by cases hr <;> simp_all))).2
    refine hk _ _ μ2 (key.putD hd ?_) hμ (fun i hi => ?_)
    · exact (ho'.res.evolve ev1 (fun _ h => h.elim) hSta (fun _ _ h => h)).ren hren
    · by_cases hni : n0 ≤ i ∧ i < n0 + (outs.length - m)
      · exact .inr (by rw [hnl]; exact hni)
      · simp only [μ2, if_neg hni] at hi; exact .inl hi
end Go.Proofs.Ytokocigmchfdfaa
