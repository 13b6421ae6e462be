/- Engine, part L: a region that draws its order: the order of the text serves, if what stands in no order does not touch. -/
import Derived.Test.YtokocigmchfdfaaEngK
set_option linter.unusedSimpArgs false
set_option linter.unusedVariables false
namespace Go.Proofs.Ytokocigmchfdfaa
open Go.RowKit

abbrev Foot := List Nat × List Nat
def footE (n0 : Nat) (e : Eff) : Foot := (e.rd, e.wr.map (·.1) ++ List.range' n0 e.news.length)

def opsD (P : Program) (n : Nat) (ds : List (Option Tmp)) : List Oper → St → List Foot → (List Foot → St → Prop) → Prop
  | [], σ, acc, K => K acc σ
  | o :: rest, σ, acc, K => gdV ds σ o (opV P n σ o fun e => wrOk σ.h.length e.wr = true ∧ opsD P n ds rest (σ.app o.dst e) (acc ++ [footE σ.h.length e]) K)
      (dstOk n o.dst ∧ opsD P n ds rest (σ.app o.dst skipE) (acc ++ [footE σ.h.length skipE]) K)

/-- as LocOp, the guard included -/
def LocW (cx : Cx) (ops : Array Oper) (σ : St) (o : Oper) (e : Eff) : Prop :=
  ∀ (H : Nat → Option Ob) (T : Nat → Option AV) (μ : Mu) (a : Act) (w : World) (K : Act → World → Prop) (Q : Exit → Act → World → Prop), RR cx H T μ a w →
    (∀ t, t ∈ o.looksAt ops → T t = σ.T t) → (∀ i, (i ∈ e.rd ∨ i ∈ e.wr.map (·.1)) → H i = σ.H i) → (∀ k, k < e.news.length → μ (σ.h.length + k) = none) →
    (∀ a' w' μ', RR cx (appH σ.h.length e H) (appT o.dst e.val T) μ' a' w' → (∀ i x, μ i = some x → μ' i = some x) → (∀ i, μ' i ≠ none → μ i ≠ none ∨ (σ.h.length ≤ i ∧ i < σ.h.length + e.news.length)) → K a' w') →
    if Region.wanted o (yielded ops a.tmps) = true then o.wp cx.P a w K Q else K (a.put o.dst undef) w

def GoodRun (cx : Cx) (ops : Array Oper) : List Oper → List Eff → St → Prop
  | [], [], _ => True
  | o :: l, e :: es, σ => LocW cx ops σ o e ∧ wrOk σ.h.length e.wr = true ∧ GoodRun cx ops l es (σ.app o.dst e)
  | _, _, _ => False
def stepsS : List Oper → List Eff → St → St
  | o :: l, e :: es, σ => stepsS l es (σ.app o.dst e)
  | _, _, σ => σ
def feetS : List Oper → List Eff → St → List Foot
  | o :: l, e :: es, σ => footE σ.h.length e :: feetS l es (σ.app o.dst e)
  | _, _, _ => []

theorem opsD_run {cx : Cx} {ops : Array Oper} : ∀ (l : List Oper) (σ : St) (acc : List Foot) (K : List Foot → St → Prop), opsD cx.P cx.n (ops.toList.map (·.dst)) l σ acc K →
    ∃ es, GoodRun cx ops l es σ ∧ K (acc ++ feetS l es σ) (stepsS l es σ)
  | [], σ, acc, K, h => ⟨[], trivial, by simpa [feetS, stepsS, opsD] using h⟩
  | o :: rest, σ, acc, K, h => by
    have yes : (∀ (H : Nat → Option Ob) (T : Nat → Option AV) (μ : Mu) (a : Act) (w : World), RR cx H T μ a w → (∀ t, t ∈ o.looksAt ops → T t = σ.T t) → Region.wanted o (yielded ops a.tmps) = true) →
        opV cx.P cx.n σ o (fun e => wrOk σ.h.length e.wr = true ∧ opsD cx.P cx.n (ops.toList.map (·.dst)) rest (σ.app o.dst e) (acc ++ [footE σ.h.length e]) K) →
        ∃ es, GoodRun cx ops (o :: rest) es σ ∧ K (acc ++ feetS (o :: rest) es σ) (stepsS (o :: rest) es σ) := by
      intro hw h
      obtain ⟨e, hloc, hok, hrest⟩ := opV_sound h
      obtain ⟨es, h1, h2⟩ := opsD_run rest _ _ K hrest
      refine ⟨e :: es, ⟨fun H T μ a w K Q hr hT hH hn hk => ?_, hok, h1⟩, by simpa [feetS, stepsS, List.append_assoc] using h2⟩
      rw [if_pos (hw H T μ a w hr hT)]
      exact hloc H T μ a w K Q hr (fun t ht => hT t (List.mem_append_left _ (List.mem_filterMap.2 ⟨.tmp t, by simpa using ht, rfl⟩))) hH hn hk
    have no : (∀ (H : Nat → Option Ob) (T : Nat → Option AV) (μ : Mu) (a : Act) (w : World), RR cx H T μ a w → (∀ t, t ∈ o.looksAt ops → T t = σ.T t) → Region.wanted o (yielded ops a.tmps) = false) →
        (dstOk cx.n o.dst ∧ opsD cx.P cx.n (ops.toList.map (·.dst)) rest (σ.app o.dst skipE) (acc ++ [footE σ.h.length skipE]) K) →
        ∃ es, GoodRun cx ops (o :: rest) es σ ∧ K (acc ++ feetS (o :: rest) es σ) (stepsS (o :: rest) es σ) := by
      rintro hw ⟨hd, h⟩
      obtain ⟨es, h1, h2⟩ := opsD_run rest _ _ K h
      refine ⟨skipE :: es, ⟨fun H T μ a w K Q hr hT hH hn hk => ?_, rfl, h1⟩, by simpa [feetS, stepsS, List.append_assoc] using h2⟩
      rw [if_neg (by rw [hw H T μ a w hr hT]; simp)]
      refine hk _ _ μ ?_ (fun _ _ h => h) (fun i h => .inl h)
      have : appH σ.h.length skipE H = H := appH_id _ _ _ _
      rw [this]
      exact hr.putD hd .any
    simp only [opsD, gdV] at h
    cases hg : o.guard with
    | none => simp only [hg] at h; exact yes (fun _ _ _ _ _ _ _ => by simp [Region.wanted, hg]) h
    | some gw =>
      obtain ⟨g, want⟩ := gw
      simp only [hg] at h
      split at h
      · rename_i s hds
        obtain ⟨v, hv, h⟩ := h
        have hs : (ops[g]?).bind (·.dst) = some s := by
          rw [List.getElem?_map] at hds
          cases hq : ops[g]? with
          | none => simp [hq] at hds
          | some q => simp [hq] at hds; simp [hds]
        split at h
        · rename_i b
          have hy : ∀ (H : Nat → Option Ob) (T : Nat → Option AV) (μ : Mu) (a : Act) (w : World), RR cx H T μ a w → (∀ t, t ∈ o.looksAt ops → T t = σ.T t) → yielded ops a.tmps g = some b := fun H T μ a w hr hT =>
            yielded_of hr hs ((hT s (by simp [Oper.looksAt, hg, hs])).trans hv)
          by_cases hb : b = want
          · exact yes (fun H T μ a w hr hT => by simp [Region.wanted, hg, hy H T μ a w hr hT, hb]) (h.1 hb)
          · exact no (fun H T μ a w hr hT => by simp [Region.wanted, hg, hy H T μ a w hr hT, hb]) (h.2 (by cases b <;> cases want <;> simp_all))
        · exact h.elim
      · exact h.elim

/-! ### the check -/
def dirs (o : Oper) : List Nat := (o.after.toList.filter (Region.binds .any ·)).map (·.on)
def befN : List Oper → List Nat → List Nat
  | [], acc => acc
  | o :: r, acc => befN r (acc ++ [(dirs o).foldl (fun s d => s ||| 2 ^ d ||| acc.getD d 0) 0])

def meets (a b : List Nat) : Bool := a.any fun q => b.contains q
def cfl (ops : Array Oper) (oi oj : Oper) (fi fj : Foot) : Bool :=
  (match oi.dst with | some d => (oj.looksAt ops).contains d || oj.dst == some d | none => false) ||
  (match oj.dst with | some d => (oi.looksAt ops).contains d | none => false) ||
  meets fi.2 fj.1 || meets fi.2 fj.2 || meets fj.2 fi.1

def chkR (ops : Array Oper) (feet : List Foot) : Bool :=
  let B := befN ops.toList []
  (List.range ops.size).all fun j => match ops[j]? with
    | some oj => (dirs oj).all (fun d => decide (d < j)) && (List.range j).all fun i => match ops[i]? with
      | some oi => !cfl ops oi oj (feet.getD i ([], [])) (feet.getD j ([], [])) || (B.getD j 0).testBit i
      | none => true
    | none => true

theorem fold_bit (acc : List Nat) : ∀ (l : List Nat) (s i : Nat), (l.foldl (fun s d => s ||| 2 ^ d ||| acc.getD d 0) s).testBit i = true → s.testBit i = true ∨ ∃ d ∈ l, i = d ∨ (acc.getD d 0).testBit i = true
  | [], s, i, h => .inl h
  | d :: l, s, i, h => by
    rcases fold_bit acc l _ i h with h | ⟨d', h1, h2⟩
    · simp only [Nat.testBit_or, Bool.or_eq_true, Nat.testBit_two_pow, decide_eq_true_eq] at h
      rcases h with (h | h) | h
      · exact .inl h
      · exact .inr ⟨d, by simp, .inl h.symm⟩
      · exact .inr ⟨d, by simp, .inr h⟩
    · exact .inr ⟨d', by simp [h1], h2⟩

def GoodB (ops : List Oper) (acc : List Nat) : Prop := ∀ (j x : Nat), acc[j]? = some x → ∀ i, x.testBit i = true → ∃ o d, ops[j]? = some o ∧ d ∈ dirs o ∧ (i = d ∨ (acc.getD d 0).testBit i = true)

theorem befN_good (ops : List Oper) : ∀ (r pre : List Oper) (acc : List Nat), ops = pre ++ r → acc.length = pre.length → GoodB ops acc → GoodB ops (befN r acc)
  | [], pre, acc, _, _, h => h
  | o :: r, pre, acc, he, hl, h => by
    refine befN_good ops r (pre ++ [o]) _ (by simp [he]) (by simp [hl]) ?_
    intro j x hj i hi
    have up : ∀ d, (acc.getD d 0).testBit i = true → ((acc ++ [(dirs o).foldl (fun s d => s ||| 2 ^ d ||| acc.getD d 0) 0]).getD d 0).testBit i = true := by
      intro d hd
      by_cases hdl : d < acc.length
      · simpa [List.getD, List.getElem?_append_left hdl] using hd
      · simp [List.getD, List.getElem?_eq_none (Nat.le_of_not_lt hdl)] at hd
    by_cases hjl : j < acc.length
    · rw [List.getElem?_append_left hjl] at hj
      obtain ⟨o', d, h1, h2, h3⟩ := h j x hj i hi
      exact ⟨o', d, h1, h2, h3.imp id (up d)⟩
    · have : j = acc.length := by
        have := (List.getElem?_eq_some_iff.1 hj).1
        simp at this; omega
      subst this
      simp at hj; subst hj
      rcases fold_bit acc _ _ i hi with h0 | ⟨d, h1, h2⟩
      · simp at h0
      · exact ⟨o, d, by rw [he, hl]; simp, h1, h2.imp id (up d)⟩

/-! ### any order -/
def lastW (p : Nat → Bool) : Nat → Option Nat
  | 0 => none
  | n + 1 => if p n then some n else lastW p n
theorem lastW_congr {p q : Nat → Bool} : ∀ (n : Nat), (∀ i, i < n → p i = q i) → lastW p n = lastW q n
  | 0, _ => rfl
  | n + 1, h => by simp only [lastW, h n (by omega), lastW_congr n fun i hi => h i (by omega)]
theorem lastW_eq {p : Nat → Bool} {j : Nat} : ∀ (n : Nat), j < n → p j = true → (∀ i, j < i → i < n → p i = false) → lastW p n = some j
  | 0, h, _, _ => by omega
  | n + 1, h, hp, hl => by
    simp only [lastW]
    by_cases hj : j = n
    · subst hj; rw [if_pos hp]
    · rw [if_neg (by rw [hl n (by omega) (by omega)]; simp), lastW_eq n (by omega) hp fun i h1 h2 => hl i h1 (by omega)]

section
variable (cx : Cx) (ops : Array Oper) (es : List Eff) (σ : St)

def opA (j : Nat) : Oper := ops.getD j default
def effA (j : Nat) : Eff := es.getD j skipE
def sigA : Nat → St
  | 0 => σ
  | j + 1 => (sigA j).app (opA ops j).dst (effA es j)
def tchA (j q : Nat) : Bool := decide ((sigA ops es σ j).h.length ≤ q ∧ q < (sigA ops es σ j).h.length + (effA es j).news.length) || ((effA es j).wlook q).isSome
def conA (j q : Nat) : Option Ob := appH (sigA ops es σ j).h.length (effA es j) (fun _ => none) q
def TS (s : Nat → Bool) (t : Nat) : Option AV := match lastW (fun i => s i && ((opA ops i).dst == some t)) ops.size with
  | some i => some (effA es i).val
  | none => σ.T t
def HS (s : Nat → Bool) (q : Nat) : Option Ob := match lastW (fun i => s i && tchA ops es σ i q) ops.size with
  | some i => conA ops es σ i q
  | none => σ.H q

theorem appH_tch (j : Nat) (H : Nat → Option Ob) (q : Nat) : appH (sigA ops es σ j).h.length (effA es j) H q = if tchA ops es σ j q = true then conA ops es σ j q else H q := by
  unfold conA tchA appH
  by_cases h1 : (sigA ops es σ j).h.length ≤ q ∧ q < (sigA ops es σ j).h.length + (effA es j).news.length
  · simp [h1]
  · simp only [h1, decide_false, Bool.false_or, if_false]
    cases h2 : (effA es j).wlook q <;> simp

theorem TS_add {s : Nat → Bool} {j : Nat} (hj : j < ops.size) (hs : s j = false) (hno : ∀ i d, j < i → i < ops.size → s i = true → (opA ops j).dst = some d → (opA ops i).dst ≠ some d) :
    TS ops es σ (fun i => s i || decide (i = j)) = appT (opA ops j).dst (effA es j).val (TS ops es σ s) := by
  funext t
  unfold appT
  by_cases hd : (opA ops j).dst = some t
  · rw [if_pos hd]
    unfold TS
    rw [lastW_eq (j := j) ops.size hj (by simp [hd]) (fun i h1 h2 => ?_)]
    have : i ≠ j := by omega
    simp only [decide_eq_false this, Bool.or_false]
    cases hsi : s i with
    | false => simp
    | true => simp [hno i t h1 h2 hsi hd]
  · rw [if_neg hd]
    unfold TS
    rw [lastW_congr (q := fun i => s i && ((opA ops i).dst == some t)) ops.size (fun i hi => ?_)]
    by_cases hij : i = j
    · subst hij; simp [hs, hd]
    · simp [hij]

theorem HS_add {s : Nat → Bool} {j : Nat} (hj : j < ops.size) (hs : s j = false) (hno : ∀ i q, j < i → i < ops.size → s i = true → tchA ops es σ j q = true → tchA ops es σ i q = false) :
    HS ops es σ (fun i => s i || decide (i = j)) = appH (sigA ops es σ j).h.length (effA es j) (HS ops es σ s) := by
  funext q
  rw [appH_tch]
  by_cases hd : tchA ops es σ j q = true
  · rw [if_pos hd]
    unfold HS
    rw [lastW_eq (j := j) ops.size hj (by simp [hd]) (fun i h1 h2 => ?_)]
    have : i ≠ j := by omega
    simp only [decide_eq_false this, Bool.or_false]
    cases hsi : s i with
    | false => simp
    | true => simp [hno i q h1 h2 hsi hd]
  · rw [if_neg hd]
    unfold HS
    rw [lastW_congr (q := fun i => s i && tchA ops es σ i q) ops.size (fun i hi => ?_)]
    by_cases hij : i = j
    · subst hij; simp [hs]; simpa using hd
    · simp [hij]

theorem sig_prefix (hok : ∀ j, j < ops.size → wrOk (sigA ops es σ j).h.length (effA es j).wr = true) : ∀ j, j ≤ ops.size → (sigA ops es σ j).T = TS ops es σ (fun i => decide (i < j)) ∧ (sigA ops es σ j).H = HS ops es σ (fun i => decide (i < j))
  | 0, _ => by
    have e : ∀ (p : Nat → Bool) n, (∀ i, p i = false) → lastW p n = none := by
      intro p n hp
      induction n with
      | zero => rfl
      | succ n ih => simp [lastW, hp, ih]
    constructor
    · funext t; simp only [TS]; rw [e _ _ (by simp)]; rfl
    · funext t; simp only [HS]; rw [e _ _ (by simp)]; rfl
  | j + 1, hj => by
    obtain ⟨h1, h2⟩ := sig_prefix hok j (by omega)
    have e : (fun i => decide (i < j + 1)) = fun i => decide (i < j) || decide (i = j) := by
      funext i
      by_cases h : i < j
      · simp [h]; omega
      · by_cases h' : i = j
        · simp [h']
        · simp [h, h']; omega
    rw [e, TS_add ops es σ (by omega) (by simp) (fun i d h3 h4 h5 => by simp at h5; omega), HS_add ops es σ (by omega) (by simp) (fun i d h3 h4 h5 => by simp at h5; omega), ← h1, ← h2]
    exact ⟨St.app_T _ _ _, St.app_H _ _ _ (hok j (by omega))⟩

theorem good_at (h : GoodRun cx ops ops.toList es σ) : es.length = ops.size ∧ ∀ j, j < ops.size → LocW cx ops (sigA ops es σ j) (opA ops j) (effA es j) ∧ wrOk (sigA ops es σ j).h.length (effA es j).wr = true := by
  have key : ∀ j, j ≤ ops.size → GoodRun cx ops (ops.toList.drop j) (es.drop j) (sigA ops es σ j) := by
    intro j
    induction j with
    | zero => intro _; simpa [sigA] using h
    | succ j ih =>
      intro hj
      have h1 := ih (by omega)
      have e1 : ops.toList.drop j = opA ops j :: ops.toList.drop (j + 1) := by
        rw [List.drop_eq_getElem_cons (by simp; omega)]; simp [opA, show j < ops.size by omega]
      rw [e1] at h1
      cases he : es.drop j with
      | nil => rw [he] at h1; exact h1.elim
      | cons e es' =>
        rw [he] at h1
        have e2 : es.drop (j + 1) = es' := by rw [← List.drop_drop (i := 1) (j := j)]; simp [he]
        have e3 : effA es j = e := by
          have : es[j]? = some e := by have := congrArg (·[0]?) he; simpa using this
          simp [effA, List.getD, this]
        rw [e2, sigA, e3]
        exact h1.2.2
  constructor
  · have h1 := key ops.size (Nat.le_refl _)
    have hlen : ∀ (l : List Oper) (es : List Eff) (σ : St), GoodRun cx ops l es σ → es.length = l.length := by
      intro l
      induction l with
      | nil => intro es σ h; cases es <;> simp_all [GoodRun]
      | cons o l ih => intro es σ h; cases es with
        | nil => exact h.elim
        | cons e es => simp [ih es _ h.2.2]
    simpa using hlen _ _ _ h
  · intro j hj
    have h1 := key j (by omega)
    have e1 : ops.toList.drop j = opA ops j :: ops.toList.drop (j + 1) := by
      rw [List.drop_eq_getElem_cons (by simp; omega)]; simp [opA, hj]
    rw [e1] at h1
    cases he : es.drop j with
    | nil => rw [he] at h1; exact h1.elim
    | cons e es' =>
      rw [he] at h1
      have e3 : effA es j = e := by
        have : es[j]? = some e := by have := congrArg (·[0]?) he; simpa using this
        simp [effA, List.getD, this]
      rw [e3]
      exact ⟨h1.1, h1.2.1⟩

theorem steps_sig : ∀ (l : List Oper) (fs : List Eff) (j : Nat), ops.toList.drop j = l → es.drop j = fs → fs.length = l.length → stepsS l fs (sigA ops es σ j) = sigA ops es σ (j + l.length) ∧
    ∀ i, i < l.length → (feetS l fs (sigA ops es σ j)).getD i ([], []) = footE (sigA ops es σ (j + i)).h.length (effA es (j + i))
  | [], fs, j, _, _, _ => by simp [stepsS]
  | o :: l, [], j, _, _, h => by simp at h
  | o :: l, e :: fs, j, h1, h2, h3 => by
    have e1 : opA ops j = o := by
      have : ops.toList[j]? = some o := by have := congrArg (·[0]?) h1; simpa using this
      have h' : ops[j]? = some o := by simpa using this
      simp [opA, h']
    have e2 : effA es j = e := by
      have : es[j]? = some e := by have := congrArg (·[0]?) h2; simpa using this
      simp [effA, List.getD, this]
    have e3 : ops.toList.drop (j + 1) = l := by rw [← List.drop_drop (i := 1) (j := j)]; simp [h1]
    have e4 : es.drop (j + 1) = fs := by rw [← List.drop_drop (i := 1) (j := j)]; simp [h2]
    obtain ⟨u1, u2⟩ := steps_sig l fs (j + 1) e3 e4 (by simpa using h3)
    have e5 : (sigA ops es σ j).app o.dst e = sigA ops es σ (j + 1) := by rw [sigA, e1, e2]
    refine ⟨?_, fun i hi => ?_⟩
    · rw [stepsS, e5, u1]; congr 1; simp; omega
    · cases i with
      | zero => simp [feetS, e2]
      | succ i =>
        rw [feetS, e5]
        have := u2 i (by simpa using hi)
        simp only [List.getD_cons_succ, this]
        have e6 : j + 1 + i = j + (i + 1) := by omega
        rw [e6]
end

theorem tch_foot {ops : Array Oper} {es : List Eff} {σ : St} {j q : Nat} : tchA ops es σ j q = true ↔ q ∈ (footE (sigA ops es σ j).h.length (effA es j)).2 := by
  have hw : ∀ (l : List (Nat × Option Ob)), ((l.find? (fun p => p.1 == q)).map (·.2)).isSome = true ↔ q ∈ l.map (·.1) := by
    intro l
    induction l with
    | nil => simp
    | cons p l ih =>
      simp only [List.find?_cons]
      by_cases hp : p.1 = q
      · simp [hp]
      · have : (p.1 == q) = false := by simp [hp]
        rw [this]
        simp only [List.map_cons, List.mem_cons]
        rw [ih]
        constructor
        · exact .inr
        · rintro (h | h)
          · exact absurd h.symm hp
          · exact h
  unfold tchA footE Eff.wlook
  simp only [Bool.or_eq_true, decide_eq_true_eq, List.mem_append, List.mem_range'_1, hw]
  exact Or.comm

theorem meets_false {a b : List Nat} (h : meets a b = false) : ∀ q, q ∈ a → q ∈ b → False := by
  intro q h1 h2
  unfold meets at h
  rw [List.any_eq_false] at h
  exact h q h1 (by simpa using h2)

theorem opA_get {ops : Array Oper} {j : Nat} (hj : j < ops.size) : ops[j]? = some (opA ops j) := by simp [opA, hj]

theorem cfl_dl {ops : Array Oper} {oi oj : Oper} {fi fj : Foot} {d : Nat} (h : oi.dst = some d) (h' : d ∈ oj.looksAt ops) : cfl ops oi oj fi fj = true := by
  have : (oj.looksAt ops).contains d = true := by simpa using h'
  unfold cfl; simp only [h, this, Bool.true_or]
theorem cfl_dd {ops : Array Oper} {oi oj : Oper} {fi fj : Foot} {d : Nat} (h : oi.dst = some d) (h' : oj.dst = some d) : cfl ops oi oj fi fj = true := by
  have : (oj.dst == some d) = true := by simp [h']
  unfold cfl; simp only [h, this, Bool.or_true, Bool.true_or]
theorem cfl_ld {ops : Array Oper} {oi oj : Oper} {fi fj : Foot} {d : Nat} (h : oj.dst = some d) (h' : d ∈ oi.looksAt ops) : cfl ops oi oj fi fj = true := by
  have : (oi.looksAt ops).contains d = true := by simpa using h'
  unfold cfl; simp only [h, this, Bool.or_true, Bool.true_or]
theorem cfl_m1 {ops : Array Oper} {oi oj : Oper} {fi fj : Foot} (h : meets fi.2 fj.1 = true) : cfl ops oi oj fi fj = true := by
  unfold cfl; simp only [h, Bool.or_true, Bool.true_or]
theorem cfl_m2 {ops : Array Oper} {oi oj : Oper} {fi fj : Foot} (h : meets fi.2 fj.2 = true) : cfl ops oi oj fi fj = true := by
  unfold cfl; simp only [h, Bool.or_true, Bool.true_or]
theorem cfl_m3 {ops : Array Oper} {oi oj : Oper} {fi fj : Foot} (h : meets fj.2 fi.1 = true) : cfl ops oi oj fi fj = true := by
  unfold cfl; simp only [h, Bool.or_true]

/-- what the check says -/
theorem chk_spec {ops : Array Oper} {feet : List Foot} (h : chkR ops feet = true) : (∀ j d, j < ops.size → d ∈ dirs (opA ops j) → d < j) ∧
    ∀ i j, i < j → j < ops.size → cfl ops (opA ops i) (opA ops j) (feet.getD i ([], [])) (feet.getD j ([], [])) = true → ((befN ops.toList []).getD j 0).testBit i = true := by
  unfold chkR at h
  simp only [List.all_eq_true, List.mem_range] at h
  constructor
  · intro j d hj hd
    have := h j hj
    rw [opA_get hj] at this
    simp only [Bool.and_eq_true, List.all_eq_true, decide_eq_true_eq] at this
    exact this.1 d hd
  · intro i j hij hj hc
    have := h j hj
    rw [opA_get hj] at this
    simp only [Bool.and_eq_true, List.all_eq_true, List.mem_range] at this
    have := this.2 i hij
    rw [opA_get (by omega)] at this
    simp only [hc, Bool.not_true, Bool.false_or] at this
    exact this

/-- a set of operations that holds, with each, what must come before it -/
theorem closed_bef {ops : Array Oper} {s : Nat → Bool} (hback : ∀ j d, j < ops.size → d ∈ dirs (opA ops j) → d < j) (hcl : ∀ j d, j < ops.size → s j = true → d ∈ dirs (opA ops j) → s d = true) :
    ∀ j i, j < ops.size → s j = true → ((befN ops.toList []).getD j 0).testBit i = true → s i = true := by
  have good := befN_good ops.toList ops.toList [] [] rfl rfl (fun j x h => by simp at h)
  intro j
  induction j using Nat.strongRecOn with
  | _ j ih =>
    intro i hj hs hb
    cases hx : (befN ops.toList [])[j]? with
    | none => simp [List.getD, hx] at hb
    | some x =>
      simp only [List.getD, hx, Option.getD_some] at hb
      obtain ⟨o, d, h1, h2, h3⟩ := good j x hx i hb
      have ho : o = opA ops j := by have := opA_get hj; simp at h1; rw [this] at h1; injection h1 with h1; exact h1.symm
      subst ho
      rcases h3 with rfl | h3
      · exact hcl j _ hj hs h2
      · exact ih d (hback j d hj h2) i (by have := hback j d hj h2; omega) (hcl j d hj hs h2) h3

theorem bef_dirs {ops : Array Oper} {s : Nat → Bool} (hback : ∀ j d, j < ops.size → d ∈ dirs (opA ops j) → d < j) (hcl : ∀ j d, j < ops.size → s j = true → d ∈ dirs (opA ops j) → s d = true) {j i : Nat} (hj : j < ops.size)
    (hd : ∀ d, d ∈ dirs (opA ops j) → s d = true) (hb : ((befN ops.toList []).getD j 0).testBit i = true) : s i = true := by
  have good := befN_good ops.toList ops.toList [] [] rfl rfl (fun j x h => by simp at h)
  cases hx : (befN ops.toList [])[j]? with
  | none => simp [List.getD, hx] at hb
  | some x =>
    simp only [List.getD, hx, Option.getD_some] at hb
    obtain ⟨o, d, h1, h2, h3⟩ := good j x hx i hb
    have ho : o = opA ops j := by have := opA_get hj; simp at h1; rw [this] at h1; injection h1 with h1; exact h1.symm
    subst ho
    rcases h3 with rfl | h3
    · exact hd _ h2
    · exact closed_bef hback hcl d i (by have := hback j d hj h2; omega) (hd d h2) h3

theorem any_order {cx : Cx} {ops : Array Oper} {es : List Eff} {σ : St} {Q : Exit → Act → World → Prop} (hgood : ∀ j, j < ops.size → LocW cx ops (sigA ops es σ j) (opA ops j) (effA es j) ∧ wrOk (sigA ops es σ j).h.length (effA es j).wr = true)
    (feet : List Foot) (hfeet : ∀ j, j < ops.size → feet.getD j ([], []) = footE (sigA ops es σ j).h.length (effA es j)) (hchk : chkR ops feet = true) (hkle : cx.k ≤ σ.h.length)
    (hQ : ∀ μ a w, RRs cx (sigA ops es σ ops.size) μ a w → Q .normal a w) :
    ∀ (fuel : Nat) (listed : Array Bool) (a : Act) (w : World) (μ : Mu), listed.size = ops.size → (∀ j, j < ops.size → listed.getD j false = true → ∀ d ∈ dirs (opA ops j), listed.getD d false = true) →
      RR cx (HS ops es σ (fun i => listed.getD i false)) (TS ops es σ (fun i => listed.getD i false)) μ a w →
      (∀ q, μ q ≠ none → q < σ.h.length ∨ ∃ i, i < ops.size ∧ listed.getD i false = true ∧ (sigA ops es σ i).h.length ≤ q ∧ q < (sigA ops es σ i).h.length + (effA es i).news.length) →
      (∀ i, i < cx.k → μ i = cx.mu0 i) → (List.range ops.size).countP (fun i => !listed.getD i false) ≤ fuel → wpAny cx.P .any ops Q fuel listed a w := by
  obtain ⟨hback, hcf⟩ := chk_spec hchk
  have hlenmono : ∀ j i, j ≤ i → (sigA ops es σ j).h.length ≤ (sigA ops es σ i).h.length := by
    intro j i hji
    induction i with
    | zero => have : j = 0 := by omega
              subst this; exact Nat.le_refl _
    | succ i ih =>
      by_cases h : j = i + 1
      · subst h; exact Nat.le_refl _
      · exact Nat.le_trans (ih (by omega)) (by rw [sigA, St.app_len]; omega)
  have fin : ∀ (listed : Array Bool) (a : Act) (w : World) (μ : Mu), listed.size = ops.size → RR cx (HS ops es σ (fun i => listed.getD i false)) (TS ops es σ (fun i => listed.getD i false)) μ a w →
      (∀ q, μ q ≠ none → q < σ.h.length ∨ ∃ i, i < ops.size ∧ listed.getD i false = true ∧ (sigA ops es σ i).h.length ≤ q ∧ q < (sigA ops es σ i).h.length + (effA es i).news.length) →
      (∀ i, i < cx.k → μ i = cx.mu0 i) → (∀ i, i < ops.size → listed.getD i false = true) → Q .normal a w := by
    intro listed a w μ hsz hr hμ hbor hall
    have hp := sig_prefix ops es σ (fun j hj => (hgood j hj).2) ops.size (Nat.le_refl _)
    have eT : TS ops es σ (fun i => listed.getD i false) = TS ops es σ (fun i => decide (i < ops.size)) := by
      funext t; unfold TS; rw [lastW_congr (q := fun i => decide (i < ops.size) && ((opA ops i).dst == some t)) ops.size (fun i hi => by simp [hall i hi, hi])]
    have eH : HS ops es σ (fun i => listed.getD i false) = HS ops es σ (fun i => decide (i < ops.size)) := by
      funext t; unfold HS; rw [lastW_congr (q := fun i => decide (i < ops.size) && tchA ops es σ i t) ops.size (fun i hi => by simp [hall i hi, hi])]
    rw [eT, eH, ← hp.1, ← hp.2] at hr
    refine hQ μ a w ⟨hr, fun q hq => ?_, hbor, Nat.le_trans hkle (hlenmono 0 _ (Nat.zero_le _))⟩
    by_cases hne : μ q = none
    · exact hne
    · exfalso
      rcases hμ q hne with h | ⟨i, h1, _, h3, h4⟩
      · have := hlenmono 0 ops.size (Nat.zero_le _); simp only [sigA] at this; omega
      · have := hlenmono (i + 1) ops.size h1
        rw [sigA, St.app_len] at this; omega
  -- whoever is first among those not listed is ready
  have ready0 : ∀ (listed : Array Bool), listed.size = ops.size → (∃ j, j < ops.size ∧ listed.getD j false = false) → ∃ j, j ∈ Region.ready .any ops listed := by
    intro listed hsz hex
    obtain ⟨j, ⟨hj, hl⟩, hmin⟩ := exists_least hex
    refine ⟨j, mem_ready.2 ⟨?_, opA ops j, opA_get hj, fun e he hb => ?_⟩⟩
    · have : j < listed.size := by omega
      simp [this] at hl ⊢; exact hl
    · have hd : e.on ∈ dirs (opA ops j) := by
        unfold dirs
        exact List.mem_map.2 ⟨e, List.mem_filter.2 ⟨by simpa using he, hb⟩, rfl⟩
      have hlt := hback j _ hj hd
      by_cases hle : listed.getD e.on false = true
      · exact hle
      · have := hmin e.on ⟨by omega, by simpa using hle⟩
        omega
  intro fuel
  induction fuel with
  | zero =>
    intro listed a w μ hsz hcl hr hμ hbor hc
    have hall : ∀ i, i < ops.size → listed.getD i false = true := by
      intro i hi
      have := (List.countP_eq_zero.1 (Nat.le_zero.1 hc)) i (by simpa using hi)
      simpa using this
    refine ⟨?_, fin listed a w μ hsz hr hμ hbor hall⟩
    rw [List.eq_nil_iff_forall_not_mem]
    intro j hj
    obtain ⟨h1, o, h2, _⟩ := mem_ready.1 hj
    have hlt : j < ops.size := (Array.getElem?_eq_some_iff.1 h2).1
    have := hall j hlt
    have hjl : j < listed.size := by omega
    simp [hjl] at this h1
    rw [this] at h1; cases h1
  | succ fuel ih =>
    intro listed a w μ hsz hcl hr hμ hbor hc
    refine ⟨fun hnil => fin listed a w μ hsz hr hμ hbor fun i hi => ?_, fun j hj => ?_⟩
    · by_cases hl : listed.getD i false = true
      · exact hl
      · obtain ⟨q, hq⟩ := ready0 listed hsz ⟨i, hi, by simpa using hl⟩
        rw [hnil] at hq; cases hq
    · obtain ⟨h1, o, h2, h3⟩ := mem_ready.1 hj
      have hlt : j < ops.size := (Array.getElem?_eq_some_iff.1 h2).1
      have ho : o = opA ops j := by rw [opA_get hlt] at h2; injection h2 with h2; exact h2.symm
      subst ho
      have hjl : j < listed.size := by omega
      have hnot : listed.getD j false = false := by simp [hjl] at h1 ⊢; exact h1
      have hdirs : ∀ d ∈ dirs (opA ops j), listed.getD d false = true := by
        intro d hd
        obtain ⟨e, he, rfl⟩ := List.mem_map.1 hd
        obtain ⟨he1, he2⟩ := List.mem_filter.1 he
        exact h3 e (by simpa using he1) he2
      have hcl' : ∀ (j d : Nat), j < ops.size → listed.getD j false = true → d ∈ dirs (opA ops j) → listed.getD d false = true := fun j d h1 h2 h3 => hcl j h1 h2 d h3
      have later : ∀ i, j < i → i < ops.size → cfl ops (opA ops j) (opA ops i) (feet.getD j ([], [])) (feet.getD i ([], [])) = true → listed.getD i false = false := by
        intro i hji hi hc'
        by_cases hl : listed.getD i false = true
        · have := closed_bef (s := fun i => listed.getD i false) hback hcl' i j hi hl (hcf j i hji hi hc')
          exact absurd (hnot.symm.trans this) (by decide)
        · simpa using hl
      have earlier : ∀ i, i < j → cfl ops (opA ops i) (opA ops j) (feet.getD i ([], [])) (feet.getD j ([], [])) = true → listed.getD i false = true := by
        intro i hij hc'
        exact bef_dirs (s := fun i => listed.getD i false) hback hcl' hlt hdirs (hcf i j hij hlt hc')
      have hp := sig_prefix ops es σ (fun j hj => (hgood j hj).2) j (by omega)
      -- the slots that j looks at
      have agreeT : ∀ t, t ∈ (opA ops j).looksAt ops → TS ops es σ (fun i => listed.getD i false) t = (sigA ops es σ j).T t := by
        intro t ht
        rw [hp.1]
        unfold TS
        rw [lastW_congr (q := fun i => decide (i < j) && ((opA ops i).dst == some t)) ops.size (fun i hi => ?_)]
        by_cases hd : (opA ops i).dst = some t
        · simp only [hd, beq_self_eq_true, Bool.and_true]
          rcases Nat.lt_trichotomy i j with h | h | h
          · rw [earlier i h (cfl_dl hd ht)]; simp [h]
          · subst h; rw [hnot]; simp
          · rw [later i h hi (cfl_ld hd ht)]; simp; omega
        · have : ((opA ops i).dst == some t) = false := by simp [hd]
          simp only [this, Bool.and_false]
      have agreeH : ∀ q, (q ∈ (effA es j).rd ∨ q ∈ (effA es j).wr.map (·.1)) → HS ops es σ (fun i => listed.getD i false) q = (sigA ops es σ j).H q := by
        intro q hq
        rw [hp.2]
        unfold HS
        rw [lastW_congr (q := fun i => decide (i < j) && tchA ops es σ i q) ops.size (fun i hi => ?_)]
        cases hd : tchA ops es σ i q with
        | false => simp
        | true =>
          simp only [Bool.and_true]
          have hm := tch_foot.1 hd
          have hmt : ∀ (a b : List Nat), q ∈ a → q ∈ b → meets a b = true := fun a b h1 h2 => List.any_eq_true.2 ⟨q, h1, by simpa using h2⟩
          have hj1 : q ∈ (feet.getD j ([], [])).1 ∨ q ∈ (feet.getD j ([], [])).2 := by
            rw [hfeet j hlt]
            rcases hq with h | h
            · exact .inl h
            · exact .inr (by simp only [footE, List.mem_append]; exact .inl h)
          have hi2 : q ∈ (feet.getD i ([], [])).2 := by rw [hfeet i hi]; exact hm
          rcases Nat.lt_trichotomy i j with h | h | h
          · rw [earlier i h (by rcases hj1 with h' | h'; (· exact cfl_m1 (hmt _ _ hi2 h')); (· exact cfl_m2 (hmt _ _ hi2 h')))]; simp [h]
          · subst h; rw [hnot]; simp
          · rw [later i h hi (by rcases hj1 with h' | h'; (· exact cfl_m3 (hmt _ _ hi2 h')); (· exact cfl_m2 (hmt _ _ h' hi2)))]; simp; omega
      -- new ids are free
      have fresh : ∀ k, k < (effA es j).news.length → μ ((sigA ops es σ j).h.length + k) = none := by
        intro k hk
        by_cases hne : μ ((sigA ops es σ j).h.length + k) = none
        · exact hne
        · exfalso
          rcases hμ _ hne with h | ⟨i, u1, u2, u3, u4⟩
          · have := hlenmono 0 j (Nat.zero_le _); simp only [sigA] at this; omega
          · rcases Nat.lt_trichotomy i j with h | h | h
            · have := hlenmono (i + 1) j h
              rw [sigA, St.app_len] at this; omega
            · subst h; exact absurd (hnot.symm.trans u2) (by decide)
            · have := hlenmono (j + 1) i h
              rw [sigA, St.app_len] at this; omega
      have hl := (hgood j hlt).1 _ _ μ a w (wpAny cx.P .any ops Q fuel (listed.setIfInBounds j true)) Q hr agreeT agreeH fresh (by
        intro a' w' μ' hr' hμ' hnew'
        have eget : ∀ i, (listed.setIfInBounds j true).getD i false = (listed.getD i false || decide (i = j)) := by
          intro i
          by_cases hij : i = j
          · subst hij; simp [hjl]
          · have := getD_set_ne (listed := listed) (i := j) (j := i) false (Ne.symm hij)
            rw [this]; simp [hij]
        have efun : (fun i => (listed.setIfInBounds j true).getD i false) = fun i => listed.getD i false || decide (i = j) := funext eget
        refine ih _ a' w' μ' (by simp [hsz]) ?_ ?_ ?_ ?_ ?_
        · intro i hi hli d hd
          rw [eget] at hli ⊢
          by_cases hij : i = j
          · subst hij; simp [hdirs d hd]
          · simp [hij] at hli
            have := hcl i hi (by simpa using hli) d hd
            rw [this]; simp
        · rw [efun, TS_add ops es σ hlt hnot (fun i d h1 h2 h3 h4 h5 => ?_), HS_add ops es σ hlt hnot (fun i q h1 h2 h3 h4 => ?_)]
          · exact hr'
          · cases hd : tchA ops es σ i q with
            | false => rfl
            | true =>
              have m1 := tch_foot.1 h4
              have m2 := tch_foot.1 hd
              rw [← hfeet j hlt] at m1
              rw [← hfeet i h2] at m2
              have hmt : meets (feet.getD j ([], [])).2 (feet.getD i ([], [])).2 = true := List.any_eq_true.2 ⟨q, m1, by simpa using m2⟩
              have := later i h1 h2 (cfl_m2 hmt)
              exact absurd (this.symm.trans h3) (by decide)
          · have := later i h1 h2 (cfl_dd h4 h5)
            exact absurd (this.symm.trans h3) (by decide)
        · intro q hq
          rcases hnew' q hq with h | h
          · rcases hμ q h with h' | ⟨i, h1, h2, h3⟩
            · exact .inl h'
            · exact .inr ⟨i, h1, by rw [eget, h2]; simp, h3⟩
          · exact .inr ⟨j, hlt, by rw [eget]; simp, h⟩
        · intro i hi
          have hb := hbor i hi
          cases hm : μ i with
          | some x => rw [hμ' i x hm, ← hb, hm]
          | none =>
            by_cases hne : μ' i = none
            · rw [hne, ← hb, hm]
            · rcases hnew' i hne with h4 | h4
              · exact absurd hm h4
              · have := hlenmono 0 j (Nat.zero_le _); simp only [sigA] at this; omega
        · have hcnt : (List.range ops.size).countP (fun i => !(listed.setIfInBounds j true).getD i false) < (List.range ops.size).countP (fun i => !listed.getD i false) := by
            have e1 : (fun i => !(listed.setIfInBounds j true).getD i false) = fun i => !(listed.getD i false || decide (i = j)) := by funext i; rw [eget]
            rw [e1]
            have hmem : j ∈ List.range ops.size := by simpa using hlt
            have gen : ∀ (l : List Nat), (l.countP (fun i => !(listed.getD i false || decide (i = j)))) ≤ l.countP (fun i => !listed.getD i false) ∧ (j ∈ l → (l.countP (fun i => !(listed.getD i false || decide (i = j)))) < l.countP (fun i => !listed.getD i false)) := by
              intro l
              induction l with
              | nil => simp
              | cons x l ih' =>
                obtain ⟨g1, g2⟩ := ih'
                simp only [List.countP_cons]
                by_cases hx : x = j
                · have e1 : (!(listed.getD x false || decide (x = j))) = false := by simp [hx]
                  have e2 : (!listed.getD x false) = true := by rw [hx, hnot]; rfl
                  rw [e1, e2]
                  simp only [Bool.false_eq_true, if_false, if_true]
                  exact ⟨by omega, fun _ => by omega⟩
                · simp only [hx, decide_false, Bool.or_false]
                  refine ⟨by omega, fun hm => ?_⟩
                  have := g2 ((List.mem_cons.1 hm).resolve_left (Ne.symm hx))
                  omega
            exact (gen _).2 hmem
          omega)
      unfold wpOp
      rw [opA_get hlt]
      simp only
      split
      · rename_i hw; rw [if_pos hw] at hl; exact .inl hl
      · rename_i hw; rw [if_neg hw] at hl; exact hl

/-- the region: the order of the text, and the check -/
theorem region_draw {cx : Cx} {id : Nat} {ops : Array Oper} {σ : St} {K : St → Prop} {Q : Exit → Act → World → Prop} {μ : Mu} {a : Act} {w : World} (hm : cx.P.follows .mixedOrders = true)
    (h : opsD cx.P cx.n (ops.toList.map (·.dst)) ops.toList σ [] fun feet σ' => chkR ops feet = true ∧ K σ') (hr : RRs cx σ μ a w) (hQ : ∀ σ' μ' a' w', K σ' → RRs cx σ' μ' a' w' → Q .normal a' w') :
    (Code.region id ops true).wp cx.P Q a w := by
  obtain ⟨es, hgood, hchk, hK⟩ := opsD_run ops.toList σ [] _ h
  obtain ⟨hlen, hat⟩ := good_at cx ops es σ hgood
  obtain ⟨hst, hft⟩ := steps_sig ops es σ ops.toList es 0 rfl rfl (by simpa using hlen)
  simp only [Nat.zero_add, List.nil_append, Array.length_toList] at hst hft hchk
  have e0 : sigA ops es σ 0 = σ := rfl
  rw [e0] at hst hft
  rw [hst] at hK
  have hrep : ∀ i, (Array.replicate ops.size false).getD i false = false := by
    intro i
    by_cases hi : i < ops.size <;> simp [hi]
  have efun : (fun i => (Array.replicate ops.size false).getD i false) = fun i => decide (i < 0) := by funext i; rw [hrep]; simp
  have hp := sig_prefix ops es σ (fun j hj => (hat j hj).2) 0 (Nat.zero_le _)
  have hev : Ev w { w with drawn := w.drawn + 1 } (fun _ => False) := ⟨rfl, rfl, rfl, Nat.le_refl _, fun _ _ _ => rfl, fun _ arr _ _ _ h => ⟨arr, h, rfl⟩⟩
  refine wp_region_any hm (any_order hat _ hft hchk hr.kle (fun μ' a' w' hr' => hQ _ μ' a' w' hK hr') ops.size _ a _ μ (by simp) (fun j _ hl => by rw [hrep] at hl; cases hl) ?_ (fun q hq => ?_) hr.bor (by
    have := List.countP_le_length (p := fun i => !(Array.replicate ops.size false).getD i false) (l := List.range ops.size)
    simpa using this))
  · rw [efun, ← hp.1, ← hp.2, e0]
    have h0 := hr.rr
    refine ⟨h0.n, h0.dfr, fun s x hx => ?_, fun i o ho => ?_, h0.own, h0.inj, ⟨h0.fr.os, h0.fr.tape, h0.fr.output, h0.fr.size, h0.fr.block, h0.fr.shape⟩, h0.vlt, h0.blt⟩
    · obtain ⟨v, h1, h2⟩ := h0.tm s x hx
      exact ⟨v, h1, h2.evolve hev (fun _ h => h.elim) (fun _ h => h) (fun _ _ h => h)⟩
    · exact (h0.ob i o ho).evolve hev (fun _ h => h.elim) (fun _ h => h) (fun _ _ h => h) (fun _ _ h => h)
  · rcases Nat.lt_or_ge q σ.h.length with h | h
    · exact .inl h
    · exact absurd (hr.mu q h) hq
end Go.Proofs.Ytokocigmchfdfaa
