/- Engine, part E: stores; numbers, comparisons, conversions. -/
import Derived.Test.YtokocigmchfdfaaEngD
set_option linter.unusedSimpArgs false
set_option linter.unusedVariables false
namespace Go.Proofs.Ytokocigmchfdfaa
open Go.RowKit

/-! ### store -/
theorem Ev.setRow {w : World} {b : Nat} {arr arr' : Array Value} {t : TypeId} {z : Nat × Nat} (hb : w.heap[b]? = some (.cells arr t z)) (hs : arr'.size = arr.size) : Ev w (w.setRow b arr') (fun c => c = b) := by
  refine ⟨rfl, rfl, rfl, by rw [setRow_size]; exact Nat.le_refl _, fun c _ hn => setRow_other w b c arr' hn, ?_⟩
  rintro c arr0 t0 z0 rfl h0
  rw [hb] at h0; injection h0 with h0; injection h0 with e1 e2 e3; subst e1 e2 e3
  exact ⟨arr', setRow_heap w c arr arr' t z hb, hs⟩

def splice {α : Type} (l : List α) (off : Nat) (m : List α) : List α := l.take off ++ m ++ l.drop (off + m.length)

theorem splice_length {α : Type} (l m : List α) (off : Nat) (h : off + m.length ≤ l.length) : (splice l off m).length = l.length := by
  simp [splice]; omega
theorem splice_get {α : Type} (l m : List α) (off j : Nat) (h : off + m.length ≤ l.length) : (splice l off m)[j]? = if off ≤ j ∧ j < off + m.length then m[j - off]? else l[j]? := by
  unfold splice
  have hl : (l.take off).length = off := by simp; omega
  by_cases h1 : j < off
  · rw [if_neg (by omega), List.append_assoc, List.getElem?_append_left (by omega), List.getElem?_take, if_pos h1]
  · rw [List.append_assoc, List.getElem?_append_right (by omega), hl]
    by_cases h2 : j < off + m.length
    · rw [if_pos (by omega), List.getElem?_append_left (by omega)]
    · rw [if_neg (by omega), List.getElem?_append_right (by omega), List.getElem?_drop]
      congr 1; omega

theorem set_get {α : Type} {l : List α} {i q : Nat} {x y : α} (h : (l.set i x)[q]? = some y) : (q = i ∧ y = x) ∨ l[q]? = some y := by
  rw [List.getElem?_set] at h
  by_cases hq : i = q
  · rw [if_pos hq] at h
    by_cases hl : i < l.length
    · rw [if_pos hl] at h; injection h with h; exact .inl ⟨hq.symm, h.symm⟩
    · rw [if_neg hl] at h; cases h
  · rw [if_neg hq] at h; exact .inr h

def toD : AV → Option D
  | .d x => some x
  | .nil => some (.sl [])
  | _ => none
theorem toD_rep {x : AV} {y : D} (h : toD x = some y) {w : World} {S : Nat → Prop} {μ : Mu} {v : Value} (hr : Rep w S μ x v) : RepD w S y v := by
  cases hr <;> simp [toD] at h
  · subst h; assumption
  · subst h; exact .nil

/-- what a store makes of an object -/
def stV (hs : Nat → Option Ob) (p : AV) (ys : List AV) (K : List (Nat × Option Ob) → List Nat → Prop) : Prop :=
  match p with
  | .ptr i off => match hs i with
    | some (.box t cs) => off + ys.length ≤ cs.length ∧ K [(i, some (.box t (splice cs off ys)))] [i]
    | _ => False
  | .ep i sz idx k => match hs i with
    | some (.rows t sz' rs) => sz' = sz ∧ ∃ r ds, rs[idx]? = some r ∧ ys.mapM toD = some ds ∧ k + ds.length ≤ r.length ∧ K [(i, some (.rows t sz (rs.set idx (splice r k ds))))] [i]
    | _ => False
  | _ => False

theorem run_storeAt {P : Program} {w : World} {b off : Nat} {arr : Array Value} {t t' : TypeId} {v : Value} (hb : w.heap[b]? = some (.cells arr t' (0, 0))) (hsz : (TL P t).ok = true) (hv : v.cells.size = (TL P t).size) (hfit : off + v.cells.size ≤ arr.size)
    (h1 : ∀ u ∈ v.cells, u.oneCell' = true) :
    (Instr.storeAt t (.pointer (some ⟨b, off, none⟩)) v).run P w = .ok () (w.setRow b (splice arr.toList off v.cells.toList).toArray) := by
  obtain ⟨i, d, hi, _, hs, _⟩ := TL_ok hsz
  have := run_storeCells_at P b off t' v.cells.toList 0 arr w hb (by simpa using hfit) (fun u hu => h1 u (by simpa using hu))
  simp only [Nat.add_zero] at this
  have e : v.cells.size = i.size := by omega
  simp [Instr.storeAt, Instr.sureAddr, storeVar, sizeOf, typeInfo, hi, e, this, splice]

theorem loc_store {cx : Cx} {n0 : Nat} {ts : Nat → Option AV} {hs : Nat → Option Ob} {o : Oper} {t : TypeId} {y z : Operand} {p x : AV} {ys : List AV} {K : Eff → Prop} (hd : o.dst = none) (ho : o.op = .store t y z)
    (hy : getT ts y = some p) (hz : getT ts z = some x) (hx : cellsA x = some ys) (hok : (TL cx.P t).ok = true) (hlen : ys.length = (TL cx.P t).size) (h : stV hs p ys fun wr rd => K ⟨.any, [], wr, rd⟩) : ∃ e, LocOp cx n0 ts hs o e ∧ K e := by
  cases p with
  | ptr i off =>
    simp only [stV] at h
    cases hi : hs i with
    | none => simp [hi] at h
    | some ob =>
      cases ob with
      | rows _ _ _ => simp [hi] at h
      | box t' cs =>
        simp only [hi] at h
        obtain ⟨hfit, hK⟩ := h
        refine ⟨_, ?_, hK⟩
        intro H T μ a w K Q hr hT hH hn hk
        have hp := hr.eval (fun t ht => hT t (by simp [Op.operands, ho, ht])) hy
        have hv := hr.eval (fun t ht => hT t (by simp [Op.operands, ho, ht])) hz
        obtain ⟨c1, c2, c3⟩ := cellsA_rep hx hv
        have hHi : H i = some (.box t' cs) := (hH i (by simp)).trans hi
        generalize hpv : a.eval y = pv at hp
        cases hp with
        | ptr hb =>
          rename_i b
          cases hr.ob i _ hHi with
          | box b1 b2 b3 b4 b5 =>
            rename_i b' arr
            rw [hb] at b1; injection b1 with b1; injection b1 with b1; subst b1
            have hrun := run_storeAt b2 hok (c1.trans hlen) (show off + (a.eval z).cells.size ≤ arr.size by rw [c1, b3]; exact hfit) c3
            have hsz : (splice arr.toList off (a.eval z).cells.toList).toArray.size = arr.size := by simp [splice_length, c1, b3, hfit]
            unfold Oper.wp
            simp only [execOp, ho, hpv]
            rw [run_u hrun]
            have hev := Ev.setRow b2 hsz
            have hns : ∀ c, c = b → ¬ cx.Sta H μ w c := fun c hc => hc ▸ hr.notSta (by simp [hHi]) hb
            have key := hr.write (by simp [hHi]) hb n0 (.box t' (splice cs off ys)) .any [i] hev (.box hb (setRow_heap w b arr _ t' _ b2) (by rw [hsz, b3, splice_length _ _ _ hfit]) (fun j x' v hj hv' => ?_) (fun v hv' => ?_))
            · refine hk _ _ μ ?_ (fun _ _ h => h) (fun i h => .inl h)
              have : appT o.dst AV.any T = T := by funext s; simp [appT, hd]
              rw [this, hd]; exact key
            · refine Rep.evolve hev hns (fun _ h => h) (fun _ _ h => h) ?_
              rw [splice_get _ _ _ _ hfit] at hj
              have hj2 : (splice arr.toList off (a.eval z).cells.toList)[j]? = some v := by simpa using hv'
              rw [splice_get _ _ _ _ (by simp [c1, b3, hfit])] at hj2
              simp only [Array.length_toList, c1] at hj2
              split at hj
              · rename_i hc; rw [if_pos hc] at hj2; exact c2 _ x' v hj (by simpa using hj2)
              · rename_i hc; rw [if_neg hc] at hj2; exact b4 _ x' v hj (by simpa using hj2)
            · have hm : v ∈ splice arr.toList off (a.eval z).cells.toList := by simpa using hv'
              unfold splice at hm
              simp only [List.mem_append] at hm
              rcases hm with (hm | hm) | hm
              · exact b5 v (by simpa using List.mem_of_mem_take hm)
              · exact c3 v (by simpa using hm)
              · exact b5 v (by simpa using List.mem_of_mem_drop hm)
  | ep i sz idx k =>
    simp only [stV] at h
    cases hi : hs i with
    | none => simp [hi] at h
    | some ob =>
      cases ob with
      | box _ _ => simp [hi] at h
      | rows t' sz' rs =>
        simp only [hi] at h
        obtain ⟨rfl, r, ds, hrx, hds, hfit, hK⟩ := h
        refine ⟨_, ?_, hK⟩
        intro H T μ a w K Q hr hT hH hn hk
        have hp := hr.eval (fun t ht => hT t (by simp [Op.operands, ho, ht])) hy
        have hv := hr.eval (fun t ht => hT t (by simp [Op.operands, ho, ht])) hz
        obtain ⟨c1, c2, c3⟩ := cellsA_rep hx hv
        obtain ⟨d1, d2⟩ := mapM_get _ _ hds
        have hHi : H i = some (.rows t' sz' rs) := (hH i (by simp)).trans hi
        generalize hpv : a.eval y = pv at hp
        cases hp with
        | ep hb =>
          rename_i b
          cases hr.ob i _ hHi with
          | rowsNil b1 _ => rw [hb] at b1; cases b1
          | rows b1 b2 b3 b4 b5 b6 =>
            rename_i b' arr
            rw [hb] at b1; injection b1 with b1; injection b1 with b1; subst b1
            have hidx : idx < rs.length := (List.getElem?_eq_some_iff.1 hrx).1
            have hrl := b5 idx r hrx
            have hblk : (idx + 1) * sz' ≤ rs.length * sz' := Nat.mul_le_mul_right _ hidx
            rw [Nat.add_mul, Nat.one_mul] at hblk
            have hfit2 : (idx * sz' + k) + (a.eval z).cells.size ≤ arr.size := by rw [c1, ← d1]; omega
            have hrun := run_storeAt b2 hok (c1.trans hlen) hfit2 c3
            have hsz : (splice arr.toList (idx * sz' + k) (a.eval z).cells.toList).toArray.size = arr.size := by
              have := splice_length arr.toList (a.eval z).cells.toList (idx * sz' + k) (by simpa using hfit2)
              simpa using this
            unfold Oper.wp
            simp only [execOp, ho, hpv]
            rw [run_u hrun]
            have hev := Ev.setRow b2 hsz
            have hns : ∀ c, c = b → ¬ cx.Sta H μ w c := fun c hc => hc ▸ hr.notSta (by simp [hHi]) hb
            have key := hr.write (by simp [hHi]) hb n0 (.rows t' sz' (rs.set idx (splice r k ds))) .any [i] hev (.rows hb (setRow_heap w b arr _ t' _ b2) b3 (by rw [hsz, List.length_set]; exact b4) (fun q r' hq => ?_) (fun q j r' x' v hq hj hv' => ?_))
            · refine hk _ _ μ ?_ (fun _ _ h => h) (fun i h => .inl h)
              have : appT o.dst AV.any T = T := by funext s; simp [appT, hd]
              rw [this, hd]; exact key
            · rcases set_get hq with ⟨_, e⟩ | hq
              · rw [e, splice_length _ _ _ hfit]; exact hrl
              · exact b5 q r' hq
            · refine RepD.evolve hev hns (fun _ h => h) ?_
              have hj2 : (splice arr.toList (idx * sz' + k) (a.eval z).cells.toList)[q * sz' + j]? = some v := by simpa using hv'
              rw [splice_get _ _ _ _ (by simpa using hfit2)] at hj2
              simp only [Array.length_toList, c1] at hj2
              have hr'l : r'.length = sz' := by
                rcases set_get hq with ⟨_, e⟩ | hq
                · rw [e, splice_length _ _ _ hfit]; exact hrl
                · exact b5 q r' hq
              have hjl : j < sz' := by rw [← hr'l]; exact (List.getElem?_eq_some_iff.1 hj).1
              by_cases hqi : idx = q
              · subst hqi
                rw [List.getElem?_set, if_pos rfl, if_pos hidx] at hq
                injection hq with hq; subst hq
                rw [splice_get _ _ _ _ hfit] at hj
                by_cases hin : k ≤ j ∧ j < k + ds.length
                · rw [if_pos hin] at hj
                  rw [if_pos (by omega)] at hj2
                  have e : idx * sz' + j - (idx * sz' + k) = j - k := by omega
                  rw [e] at hj2
                  have hlt : j - k < ys.length := by omega
                  exact toD_rep (d2 _ ys[j - k] x' (List.getElem?_eq_getElem hlt) hj) (c2 _ ys[j - k] v (List.getElem?_eq_getElem hlt) (by simpa using hj2))
                · rw [if_neg hin] at hj
                  rw [if_neg (by omega)] at hj2
                  exact b6 idx j r x' v hrx hj (by simpa using hj2)
              · rw [List.getElem?_set, if_neg hqi] at hq
                have hne : ¬ (idx * sz' + k ≤ q * sz' + j ∧ q * sz' + j < idx * sz' + k + ys.length) := by
                  rintro ⟨u1, u2⟩
                  rcases Nat.lt_or_gt_of_ne hqi with hlt | hgt
                  · have : (idx + 1) * sz' ≤ q * sz' := Nat.mul_le_mul_right _ hlt
                    rw [Nat.add_mul, Nat.one_mul] at this; omega
                  · have : (q + 1) * sz' ≤ idx * sz' := Nat.mul_le_mul_right _ hgt
                    rw [Nat.add_mul, Nat.one_mul] at this; omega
                rw [if_neg hne] at hj2
                exact b6 q j r' x' v hq hj (by simpa using hj2)
  | _ => exact h.elim

/-! ### numbers -/
/-- equality at a struct type all cells of which are numbers or truth values of the given kinds -/
def scal (w : World) : List (Option IntKind) → List Value → Prop
  | [], [] => True
  | some k :: ks, v :: vs => (∃ n, v = .int k n) ∧ scal w ks vs
  | none :: ks, v :: vs => (∃ b, v = .bool b) ∧ scal w ks vs
  | _, _ => False

def kindsOf : List AV → Option (List (Option IntKind))
  | [] => some []
  | .d (.int k _) :: l => (kindsOf l).map (some k :: ·)
  | .d (.bool _) :: l => (kindsOf l).map (none :: ·)
  | _ => none

def eqL : List AV → List AV → Bool
  | .d (.int _ a) :: l, .d (.int _ b) :: m => (a == b) && eqL l m
  | .d (.bool a) :: l, .d (.bool b) :: m => (a == b) && eqL l m
  | _, _ => true

def valL : List AV → List Value
  | [] => []
  | .d (.int k n) :: l => .int k n :: valL l
  | .d (.bool b) :: l => .bool b :: valL l
  | _ :: l => undef :: valL l

/-- the type's own equality on such cells (laid once for each type and program) -/
def EqT (P : Program) (t : TypeId) (ks : List (Option IntKind)) : Prop :=
  P.eqGuardType P.depth t = false ∧ ∀ (xs ys : List AV) (w : World), kindsOf xs = some ks → kindsOf ys = some ks →
    (Op.equalIn 10000 t (.agg (valL xs).toArray) (.agg (valL ys).toArray)).run P w = .ok (eqL xs ys) w

def shN (k : IntKind) (b : Int) : Nat := min b.toNat k.bits

/-- a test parts the ways -/
def cmpV (p : Prop) (K : AV → Prop) : Prop := (p → K (.d (.bool true))) ∧ (¬ p → K (.d (.bool false)))
def ncmpV (p : Prop) (K : AV → Prop) : Prop := (p → K (.d (.bool false))) ∧ (¬ p → K (.d (.bool true)))

def eqP : List AV → List AV → Prop
  | .d (.int _ a) :: l, .d (.int _ b) :: m => a = b ∧ eqP l m
  | .d (.bool a) :: l, .d (.bool b) :: m => a = b ∧ eqP l m
  | _, _ => True
theorem eqL_iff : ∀ (l m : List AV), eqL l m = true ↔ eqP l m
  | [], m => by simp [eqL, eqP]
  | x :: l, [] => by cases x <;> first | (rename_i d; cases d <;> simp [eqL, eqP]) | simp [eqL, eqP]
  | x :: l, y :: m => by
    cases x with
    | d x =>
      cases y with
      | d y => cases x <;> cases y <;> simp [eqL, eqP, eqL_iff l m]
      | _ => cases x <;> simp [eqL, eqP]
    | _ => simp [eqL, eqP]

/-- numbers that may or may not fit -/
def fitV (k : IntKind) (n : Int) (K : Int → Prop) : Prop := K (k.wrap n)
def quoV (a b : Int) (K : Int → Prop) : Prop := K (a.tdiv b)
def remV (a b : Int) (K : Int → Prop) : Prop := K (a.tmod b)
def shV (k : IntKind) (b : Int) (K : Nat → Prop) : Prop := K (shN k b)

def lenA : AV → Option Nat
  | .d (.sl rows) => some rows.length
  | .row _ _ _ len => some len
  | .sub _ _ _ len => some len
  | .nil => some 0
  | _ => none

def binV (P : Program) (op : BinOp) (t : TypeId) (x y : AV) (K : AV → Prop) : Prop :=
  match x, y with
  | .d (.int k a), .d (.int k' b) =>
    (match op with
      | .add => k = k' ∧ fitV k (a + b) fun n => K (.d (.int k n))
      | .sub => k = k' ∧ fitV k (a - b) fun n => K (.d (.int k n))
      | .mul => k = k' ∧ fitV k (a * b) fun n => K (.d (.int k n))
      | .quo => k = k' ∧ b ≠ 0 ∧ quoV a b fun q => fitV k q fun n => K (.d (.int k n))
      | .rem => k = k' ∧ b ≠ 0 ∧ remV a b fun n => K (.d (.int k n))
      | .and => k = k' ∧ K (.d (.int k (bits .and k a b)))
      | .or => k = k' ∧ K (.d (.int k (bits .or k a b)))
      | .xor => k = k' ∧ K (.d (.int k (bits .xor k a b)))
      | .andNot => k = k' ∧ K (.d (.int k (bits .andNot k a b)))
      | .shl => 0 ≤ b ∧ shV k b fun s => fitV k (a * 2 ^ s) fun n => K (.d (.int k n))
      | .shr => 0 ≤ b ∧ shV k b fun s => K (.d (.int k (a / 2 ^ s)))
      | .eql => k = k' ∧ cmpV (a = b) K
      | .neq => k = k' ∧ ncmpV (a = b) K
      | .lss => k = k' ∧ cmpV (a < b) K
      | .leq => k = k' ∧ cmpV (a ≤ b) K
      | .gtr => k = k' ∧ cmpV (b < a) K
      | .geq => k = k' ∧ cmpV (b ≤ a) K)
  | .d (.bool a), .d (.bool b) => (TL P t).ok = true ∧ P.underlying t = some .bool ∧ (match op with
      | .eql => K (.d (.bool (a == b)))
      | .neq => K (.d (.bool (a != b)))
      | _ => False)
  | .agg xs, .agg ys => ∃ ks, kindsOf xs = some ks ∧ kindsOf ys = some ks ∧ EqT P t ks ∧ (match op with
      | .eql => cmpV (eqP xs ys) K
      | .neq => ncmpV (eqP xs ys) K
      | _ => False)
  | x, .nil => (TL P t).ok = true ∧ (∃ e, (TL P t).selem = some e) ∧ ∃ n, lenA x = some n ∧ (match op with
      | .eql => K (.tf (n = 0) True)
      | .neq => K (.tf True (n = 0))
      | _ => False)
  | _, _ => False

theorem kinds_rep {w : World} {S : Nat → Prop} {μ : Mu} : ∀ (xs : List AV) (ks : List (Option IntKind)) (vs : List Value), kindsOf xs = some ks → vs.length = xs.length →
    (∀ (j : Nat) (x : AV) (v : Value), xs[j]? = some x → vs[j]? = some v → Rep w S μ x v) → vs = valL xs
  | [], _, vs, _, hl, _ => by simp at hl; subst hl; rfl
  | x :: xs, ks, vs, hk, hl, h => by
    cases vs with
    | nil => simp at hl
    | cons v vs =>
      have ih := fun ks' hk' => kinds_rep xs ks' vs hk' (by simpa using hl) (fun j y u hy hu => h (j + 1) y u (by simpa using hy) (by simpa using hu))
      have h0 := h 0 x v rfl rfl
      cases x with
      | d y =>
        cases y with
        | int k n =>
          simp only [kindsOf] at hk
          cases hk' : kindsOf xs with
          | none => simp [hk'] at hk
          | some ks' => cases h0 with | d h0 => cases h0; rw [ih ks' hk']; rfl
        | bool b =>
          simp only [kindsOf] at hk
          cases hk' : kindsOf xs with
          | none => simp [hk'] at hk
          | some ks' => cases h0 with | d h0 => cases h0; rw [ih ks' hk']; rfl
        | sl _ => simp [kindsOf] at hk
      | _ => simp [kindsOf] at hk

theorem loc_binOp {cx : Cx} {n0 : Nat} {ts : Nat → Option AV} {hs : Nat → Option Ob} {o : Oper} {op : BinOp} {t t' : TypeId} {y z : Operand} {p q : AV} {K : Eff → Prop} (hd : dstOk cx.n o.dst) (ho : o.op = .binOp op t y z t')
    (hy : getT ts y = some p) (hz : getT ts z = some q) (h : binV cx.P op t p q fun x => K ⟨x, [], [], []⟩) : ∃ e, LocOp cx n0 ts hs o e ∧ K e := by
  have go : ∀ x, K ⟨x, [], [], []⟩ → (∀ (H : Nat → Option Ob) (μ : Mu) (a : Act) (w : World), Rep w (cx.Sta H μ w) μ p (a.eval y) → Rep w (cx.Sta H μ w) μ q (a.eval z) →
      ∃ v, (do eqGuard op t y z (a.eval y) (a.eval z); binOp op t (a.eval y) (a.eval z) : Sem Value).run cx.P w = .ok v w ∧ Rep w (cx.Sta H μ w) μ x v) → ∃ e, LocOp cx n0 ts hs o e ∧ K e := by
    intro x hK hrun
    refine ⟨_, loc_val hd fun H T μ a w hr he _ => ?_, hK⟩
    obtain ⟨v, h1, h2⟩ := hrun H μ a w (he y _ (by simp [Op.operands, ho]) hy) (he z _ (by simp [Op.operands, ho]) hz)
    exact ⟨v, by simp only [execOp, ho]; exact run_v h1, h2⟩
  unfold binV at h
  split at h
  · rename_i k a k' b
    have fin : ∀ x v, K ⟨x, [], [], []⟩ → (∀ w S μ, Rep w S μ x v) → (∀ w : World, (do eqGuard op t y z (.int k a) (.int k' b); binOp op t (.int k a) (.int k' b) : Sem Value).run cx.P w = .ok v w) → ∃ e, LocOp cx n0 ts hs o e ∧ K e := by
      intro x v hK hR hrun
      refine go x hK fun H μ a' w h1 h2 => ⟨v, ?_, hR _ _ _⟩
      generalize a'.eval y = v1 at *
      generalize a'.eval z = v2 at *
      cases h1 with | d h1 => cases h1; cases h2 with | d h2 => cases h2; exact hrun w
    have gd : ∀ (w : World), (eqGuard op t y z (.int k a) (.int k' b)).run cx.P w = .ok () w := fun w => by unfold eqGuard; cases op <;> simp
    have b0 : ∀ (v : Value), (∀ w : World, (binOp op t (.int k a) (.int k' b)).run cx.P w = .ok v w) → ∀ w : World, (do eqGuard op t y z (.int k a) (.int k' b); binOp op t (.int k a) (.int k' b) : Sem Value).run cx.P w = .ok v w := by
      intro v hv w; rw [Sem.run_bind, gd]; simp only [Result.andThen_ok]; exact hv w
    cases op with
    | add => obtain ⟨rfl, hK⟩ := h; exact fin _ _ hK (fun _ _ _ => .d .int) (b0 _ fun w => by simp [binOp, Op.intArith])
    | sub => obtain ⟨rfl, hK⟩ := h; exact fin _ _ hK (fun _ _ _ => .d .int) (b0 _ fun w => by simp [binOp, Op.intArith])
    | mul => obtain ⟨rfl, hK⟩ := h; exact fin _ _ hK (fun _ _ _ => .d .int) (b0 _ fun w => by simp [binOp, Op.intArith])
    | quo => obtain ⟨rfl, h0, hK⟩ := h; exact fin _ _ hK (fun _ _ _ => .d .int) (b0 _ fun w => by simp [binOp, Op.intDiv, h0])
    | rem => obtain ⟨rfl, h0, hK⟩ := h; exact fin _ _ hK (fun _ _ _ => .d .int) (b0 _ fun w => by simp [binOp, Op.intDiv, h0])
    | and => obtain ⟨rfl, hK⟩ := h; exact fin _ _ hK (fun _ _ _ => .d .int) (b0 _ fun w => by simp [binOp, Op.intBits, bits])
    | or => obtain ⟨rfl, hK⟩ := h; exact fin _ _ hK (fun _ _ _ => .d .int) (b0 _ fun w => by simp [binOp, Op.intBits, bits])
    | xor => obtain ⟨rfl, hK⟩ := h; exact fin _ _ hK (fun _ _ _ => .d .int) (b0 _ fun w => by simp [binOp, Op.intBits, bits])
    | andNot => obtain ⟨rfl, hK⟩ := h; exact fin _ _ hK (fun _ _ _ => .d .int) (b0 _ fun w => by simp [binOp, Op.intBits, bits])
    | shl =>
      obtain ⟨h0, hK⟩ := h
      have : ¬ b < 0 := by omega
      exact fin _ _ hK (fun _ _ _ => .d .int) (b0 _ fun w => by simp [binOp, Op.shift, this, shN])
    | shr =>
      obtain ⟨h0, hK⟩ := h
      have : ¬ b < 0 := by omega
      exact fin _ _ hK (fun _ _ _ => .d .int) (b0 _ fun w => by simp [binOp, Op.shift, this, shN]; exact Int.fdiv_eq_ediv_of_nonneg _ (Int.le_of_lt (Int.pow_pos (by decide))))
    | eql =>
      obtain ⟨rfl, hK⟩ := h
      by_cases hc : a = b
      · exact fin _ (.bool true) (hK.1 hc) (fun _ _ _ => .d .bool) (b0 _ fun w => by simp [binOp, Op.intCmp, hc])
      · exact fin _ (.bool false) (hK.2 hc) (fun _ _ _ => .d .bool) (b0 _ fun w => by simp [binOp, Op.intCmp]; omega)
    | neq =>
      obtain ⟨rfl, hK⟩ := h
      by_cases hc : a = b
      · exact fin _ (.bool false) (hK.1 hc) (fun _ _ _ => .d .bool) (b0 _ fun w => by simp [binOp, Op.intCmp, hc])
      · exact fin _ (.bool true) (hK.2 hc) (fun _ _ _ => .d .bool) (b0 _ fun w => by simp [binOp, Op.intCmp]; omega)
    | lss =>
      obtain ⟨rfl, hK⟩ := h
      by_cases hc : a < b
      · exact fin _ (.bool true) (hK.1 hc) (fun _ _ _ => .d .bool) (b0 _ fun w => by simp [binOp, Op.intCmp, hc])
      · exact fin _ (.bool false) (hK.2 hc) (fun _ _ _ => .d .bool) (b0 _ fun w => by simp [binOp, Op.intCmp]; omega)
    | leq =>
      obtain ⟨rfl, hK⟩ := h
      by_cases hc : a ≤ b
      · exact fin _ (.bool true) (hK.1 hc) (fun _ _ _ => .d .bool) (b0 _ fun w => by simp [binOp, Op.intCmp, hc])
      · exact fin _ (.bool false) (hK.2 hc) (fun _ _ _ => .d .bool) (b0 _ fun w => by simp [binOp, Op.intCmp]; omega)
    | gtr =>
      obtain ⟨rfl, hK⟩ := h
      by_cases hc : b < a
      · exact fin _ (.bool true) (hK.1 hc) (fun _ _ _ => .d .bool) (b0 _ fun w => by simp [binOp, Op.intCmp, hc])
      · exact fin _ (.bool false) (hK.2 hc) (fun _ _ _ => .d .bool) (b0 _ fun w => by simp [binOp, Op.intCmp]; omega)
    | geq =>
      obtain ⟨rfl, hK⟩ := h
      by_cases hc : b ≤ a
      · exact fin _ (.bool true) (hK.1 hc) (fun _ _ _ => .d .bool) (b0 _ fun w => by simp [binOp, Op.intCmp, hc])
      · exact fin _ (.bool false) (hK.2 hc) (fun _ _ _ => .d .bool) (b0 _ fun w => by simp [binOp, Op.intCmp]; omega)
  · rename_i a b
    obtain ⟨_, hu, h⟩ := h
    have eqb : ∀ w : World, (Op.equal t (.bool a) (.bool b)).run cx.P w = .ok (a == b) w := fun w => run_equal_bool w t a b hu
    cases op <;> simp only at h <;> try exact h.elim
    all_goals
      refine go _ h fun H μ a' w h1 h2 => ?_
      generalize a'.eval y = v1 at *
      generalize a'.eval z = v2 at *
      cases h1 with | d h1 => cases h1; cases h2 with | d h2 => cases h2; exact ⟨_, by simp only [eqGuard, binOp, Sem.run_bind, eqb]; rfl, .d .bool⟩
  · rename_i xs ys
    obtain ⟨ks, k1, k2, ⟨hg, heq⟩, h⟩ := h
    have run : ∀ (r : Bool) (op' : BinOp) (H : Nat → Option Ob) (μ : Mu) (a' : Act) (w : World), op = op' → (op' = .eql ∧ eqL xs ys = r ∨ op' = .neq ∧ (!eqL xs ys) = r) → Rep w (cx.Sta H μ w) μ (.agg xs) (a'.eval y) → Rep w (cx.Sta H μ w) μ (.agg ys) (a'.eval z) →
        ∃ v, (do eqGuard op t y z (a'.eval y) (a'.eval z); binOp op t (a'.eval y) (a'.eval z) : Sem Value).run cx.P w = .ok v w ∧ Rep w (cx.Sta H μ w) μ (.d (.bool r)) v := by
      rintro r op' H μ a' w rfl hop h1 h2
      generalize a'.eval y = v1 at *
      generalize a'.eval z = v2 at *
      cases h1 with
      | agg l1 r1 o1 =>
        rename_i vs1
        cases h2 with
        | agg l2 r2 o2 =>
          rename_i vs2
          have e1 := kinds_rep xs ks vs1.toList k1 (by simpa using l1) (fun j x v hx hv => r1 j x v hx (by simpa using hv))
          have e2 := kinds_rep ys ks vs2.toList k2 (by simpa using l2) (fun j x v hx hv => r2 j x v hx (by simpa using hv))
          have e3 : vs1 = (valL xs).toArray := by rw [← e1]
          have e4 : vs2 = (valL ys).toArray := by rw [← e2]
          subst e3 e4
          have eqag : (Op.equal t (.agg (valL xs).toArray) (.agg (valL ys).toArray)).run cx.P w = .ok (eqL xs ys) w := heq xs ys w k1 k2
          rcases hop with ⟨rfl, rfl⟩ | ⟨rfl, rfl⟩
          · exact ⟨_, by rw [Sem.run_bind, run_eqGuard_agg _ _ _ _ _ _ _ hg]; simp only [binOp, Result.andThen_ok, Sem.run_bind, eqag]; rfl, .d .bool⟩
          · exact ⟨_, by rw [Sem.run_bind, run_eqGuard_agg _ _ _ _ _ _ _ hg]; simp only [binOp, Result.andThen_ok, Sem.run_bind, eqag]; rfl, .d .bool⟩
    have hP := eqL_iff xs ys
    cases op <;> simp only at h <;> try exact h.elim
    · by_cases hc : eqP xs ys
      · exact go _ (h.1 hc) fun H μ a' w h1 h2 => run true .eql H μ a' w rfl (.inl ⟨rfl, hP.2 hc⟩) h1 h2
      · exact go _ (h.2 hc) fun H μ a' w h1 h2 => run false .eql H μ a' w rfl (.inl ⟨rfl, by cases he : eqL xs ys <;> simp_all⟩) h1 h2
    · by_cases hc : eqP xs ys
      · exact go _ (h.1 hc) fun H μ a' w h1 h2 => run false .neq H μ a' w rfl (.inr ⟨rfl, by rw [hP.2 hc]; rfl⟩) h1 h2
      · exact go _ (h.2 hc) fun H μ a' w h1 h2 => run true .neq H μ a' w rfl (.inr ⟨rfl, by cases he : eqL xs ys <;> simp_all⟩) h1 h2
  · obtain ⟨hok, ⟨e, hse⟩, n, hn, h⟩ := h
    have hu : cx.P.underlying t = some (.slice e) := TL_selem hok hse
    have key : ∀ (w : World) (S : Nat → Prop) (μ : Mu) (v : Value), Rep w S μ p v → ∃ A c, v = .slice A n c ∧ (A = none → n = 0) := by
      intro w S μ v hr
      cases hr with
      | d hr =>
        cases hr with
        | nil => simp [lenA] at hn; exact ⟨_, _, by rw [← hn], fun _ => hn.symm⟩
        | sl => simp [lenA] at hn; exact ⟨_, _, by rw [← hn], fun h => by cases h⟩
        | _ => simp [lenA] at hn
      | rowNil => simp [lenA] at hn; exact ⟨_, _, by rw [← hn], fun _ => hn.symm⟩
      | row => simp [lenA] at hn; exact ⟨_, _, by rw [← hn], fun h => by cases h⟩
      | subNil => simp [lenA] at hn; exact ⟨_, _, by rw [← hn], fun _ => hn.symm⟩
      | sub => simp [lenA] at hn; exact ⟨_, _, by rw [← hn], fun h => by cases h⟩
      | nil => simp [lenA] at hn; exact ⟨_, _, by rw [← hn], fun _ => hn.symm⟩
      | _ => simp [lenA] at hn
    cases op <;> simp only at h <;> try exact h.elim
    all_goals
      refine go _ h fun H μ a' w h1 h2 => ?_
      obtain ⟨A, c, e1, e2⟩ := key _ _ _ _ h1
      rw [e1]
      generalize a'.eval z = v2 at *
      cases h2
      have he : (Op.equal t (.slice A n c) (.slice none 0 0)).run cx.P w = .ok A.isNone w := by
        unfold Op.equal
        rw [show Op.maxDepth = Op.maxDepth - 1 + 1 from rfl]
        cases A <;> simp [Op.equalIn, run_underlying hu]
    · exact ⟨.bool A.isNone, by simp [eqGuard, binOp, he], .tf (fun hb => e2 (by cases A <;> simp_all)) (fun _ => trivial)⟩
    · exact ⟨.bool !A.isNone, by simp [eqGuard, binOp, he], .tf (fun _ => trivial) (fun hb => e2 (by cases A <;> simp_all))⟩
  · exact h.elim

def unV (op : UnOp) (x : AV) (K : AV → Prop) : Prop :=
  match op, x with
  | .neg, .d (.int k n) => fitV k (0 - n) fun m => K (.d (.int k m))
  | .xor, .d (.int k n) => K (.d (.int k (bits .xor k (if k.signed then -1 else k.max) n)))
  | .not, .d (.bool b) => K (.d (.bool (!b)))
  | _, _ => False

theorem loc_unOp {cx : Cx} {n0 : Nat} {ts : Nat → Option AV} {hs : Nat → Option Ob} {o : Oper} {op : UnOp} {t : TypeId} {y : Operand} {p : AV} {K : Eff → Prop} (hd : dstOk cx.n o.dst) (ho : o.op = .unOp op t y)
    (hy : getT ts y = some p) (h : unV op p fun x => K ⟨x, [], [], []⟩) : ∃ e, LocOp cx n0 ts hs o e ∧ K e := by
  have go : ∀ (d d' : D) (v v' : Value), p = .d d → K ⟨.d d', [], [], []⟩ → (∀ w S, RepD w S d' v') → (∀ w S u, RepD w S d u → u = v) → (∀ w : World, (Op.unary op v).run cx.P w = .ok v' w) → ∃ e, LocOp cx n0 ts hs o e ∧ K e := by
    rintro d d' v v' rfl hK hR hu hrun
    refine ⟨_, loc_val hd fun H T μ a w hr he _ => ?_, hK⟩
    have h1 := he y _ (by simp [Op.operands, ho]) hy
    generalize hv : a.eval y = u at h1
    cases h1 with
    | d h1 =>
      obtain rfl := hu _ _ _ h1
      exact ⟨_, by simp only [execOp, ho, hv]; exact run_v (hrun w), .d (hR _ _)⟩
  unfold unV at h
  split at h
  · rename_i k n; exact go _ _ (.int k n) _ rfl h (fun _ _ => .int) (fun _ _ _ h => by cases h; rfl) (fun w => rfl)
  · rename_i k n; exact go _ _ (.int k n) _ rfl h (fun _ _ => .int) (fun _ _ _ h => by cases h; rfl) (fun w => rfl)
  · rename_i b; exact go _ _ (.bool b) _ rfl h (fun _ _ => .bool) (fun _ _ _ h => by cases h; rfl) (fun w => rfl)
  · exact h.elim

theorem loc_convert {cx : Cx} {n0 : Nat} {ts : Nat → Option AV} {hs : Nat → Option Ob} {o : Oper} {s t : TypeId} {y : Operand} {k k' : IntKind} {n : Int} (hd : dstOk cx.n o.dst) (ho : o.op = .convert s t y)
    (hy : getT ts y = some (.d (.int k n))) (hs1 : (TL cx.P s).ok = true) (ht1 : (TL cx.P t).ok = true) (hk : (TL cx.P t).ik = some k') : LocOp cx n0 ts hs o ⟨.d (.int k' (k'.wrap n)), [], [], []⟩ := by
  obtain ⟨i1, d1, h1, u1, _⟩ := TL_ok hs1
  obtain ⟨i2, d2, h2, u2, _⟩ := TL_ok ht1
  have : d2 = .int k' := by
    unfold TL at hk
    simp only [h2, u2] at hk
    cases d2 <;> simp at hk
    subst hk; rfl
  subst this
  refine loc_val hd fun H T μ a w hr he _ => ?_
  have h3 := he y _ (by simp [Op.operands, ho]) hy
  generalize hv : a.eval y = v at h3
  cases h3 with
  | d h3 =>
    cases h3
    refine ⟨_, ?_, .d .int⟩
    simp only [execOp, ho, hv]
    refine run_v ?_
    unfold convert
    simp only [Sem.run_bind, run_underlying u1, run_underlying u2, Result.andThen_ok]
    cases d1 <;> simp [Conv.intToInt]
end Go.Proofs.Ytokocigmchfdfaa
