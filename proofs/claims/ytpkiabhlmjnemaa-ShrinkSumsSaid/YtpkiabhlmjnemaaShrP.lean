/- Objects that may be discarded: what the checks say, in plain words. -/
import Derived.Test.YtpkiabhlmjnemaaBase
namespace Go.Proofs.Ytpkiabhlmjnemaa
set_option linter.unusedSimpArgs false
set_option linter.unusedVariables false

/-- an object: kind, age, place -/
abbrev O := Int × Int × Int
def oneE (o : O) : Int := if o.1 < 1 ∨ 3 < o.1 then 16 else if o.2.1 < 1 ∨ 1099511627776 < o.2.1 ∨ o.2.2 < 0 ∨ 2048 ≤ o.2.2 then 2 else 0
def late (pre : List O) (o : O) : Bool := match pre.getLast? with
  | some x => decide (o.2.1 ≤ x.2.1)
  | none => false
def plcd (l : List O) (t : Int) : Bool := l.any fun x => decide (x.2.2 = t)
def ckE (pre : List O) (o : O) : Int := if oneE o ≠ 0 then oneE o else if late pre o = true then 8 else if plcd pre o.2.2 = true then 7 else 0
def cgo : List O → List O → Int × Int
  | _, [] => (0, 0)
  | pre, o :: r => if ckE pre o ≠ 0 then (ckE pre o, pre.length) else cgo (pre ++ [o]) r
/-- the first error of a list, and where -/
def chk (l : List O) : Int × Int := if 256 < l.length then (5, 0) else cgo [] l

theorem oneE_kind {o : O} (h : o.1 < 1 ∨ 3 < o.1) : oneE o = 16 := by simp [oneE, h]
theorem oneE_range {o : O} (h : ¬ (o.1 < 1 ∨ 3 < o.1)) (h2 : o.2.1 < 1 ∨ 1099511627776 < o.2.1 ∨ o.2.2 < 0 ∨ 2048 ≤ o.2.2) : oneE o = 2 := by simp [oneE, h, h2]
theorem oneE_ok {o : O} (h : ¬ (o.1 < 1 ∨ 3 < o.1)) (h2 : ¬ (o.2.1 < 1 ∨ 1099511627776 < o.2.1 ∨ o.2.2 < 0 ∨ 2048 ≤ o.2.2)) : oneE o = 0 := by simp [oneE, h, h2]
theorem oneE_zero {o : O} (h : oneE o = 0) : 1 ≤ o.1 ∧ o.1 ≤ 3 ∧ 1 ≤ o.2.1 ∧ o.2.1 ≤ 1099511627776 ∧ 0 ≤ o.2.2 ∧ o.2.2 < 2048 := by
  unfold oneE at h
  split at h
  · omega
  · split at h
    · omega
    · omega
theorem late_nil (o : O) : late [] o = false := rfl
theorem late_succ (l : List O) (j : Nat) (h : j < l.length) (o : O) : late (l.take (j + 1)) o = decide (o.2.1 ≤ (l[j]).2.1) := by
  unfold late; rw [take_get l j h, List.getLast?_concat]
theorem cgo_bad {pre r : List O} {o : O} (h : ckE pre o ≠ 0) : cgo pre (o :: r) = (ckE pre o, (pre.length : Int)) := by simp [cgo, h]
theorem cgo_go {pre r : List O} {o : O} (h : ckE pre o = 0) : cgo pre (o :: r) = cgo (pre ++ [o]) r := by simp [cgo, h]
theorem ckE_one {pre : List O} {o : O} (h : oneE o ≠ 0) : ckE pre o = oneE o := by simp [ckE, h]
theorem ckE_late {pre : List O} {o : O} (h : oneE o = 0) (h2 : late pre o = true) : ckE pre o = 8 := by simp [ckE, h, h2]
theorem ckE_plcd {pre : List O} {o : O} (h : oneE o = 0) (h2 : late pre o = false) (h3 : plcd pre o.2.2 = true) : ckE pre o = 7 := by simp [ckE, h, h2, h3]
theorem ckE_ok {pre : List O} {o : O} (h : oneE o = 0) (h2 : late pre o = false) (h3 : plcd pre o.2.2 = false) : ckE pre o = 0 := by simp [ckE, h, h2, h3]

/-- a valid list -/
structure Vl (l : List O) : Prop where
  len : l.length ≤ 256
  one : ∀ o ∈ l, oneE o = 0
  age : l.Pairwise fun a b => a.2.1 < b.2.1
  at_ : l.Pairwise fun a b => a.2.2 ≠ b.2.2

theorem cgo_val : ∀ (r pre : List O), (cgo pre r).1 = 0 → (∀ o ∈ pre, oneE o = 0) → (pre.Pairwise fun a b => a.2.1 < b.2.1) → (pre.Pairwise fun a b => a.2.2 ≠ b.2.2) →
    (∀ o ∈ pre ++ r, oneE o = 0) ∧ ((pre ++ r).Pairwise fun a b => a.2.1 < b.2.1) ∧ ((pre ++ r).Pairwise fun a b => a.2.2 ≠ b.2.2)
  | [], pre, _, h1, h2, h3 => by simpa using ⟨by simpa using h1, h2, h3⟩
  | o :: r, pre, h, h1, h2, h3 => by
    by_cases hc : ckE pre o = 0
    · rw [cgo_go hc] at h
      have ho : oneE o = 0 := by
        by_cases he : oneE o = 0
        · exact he
        · rw [ckE_one he] at hc; exact hc
      have hl : late pre o = false := by
        cases hh : late pre o with
        | false => rfl
        | true => rw [ckE_late ho hh] at hc; cases hc
      have hp : plcd pre o.2.2 = false := by
        cases hh : plcd pre o.2.2 with
        | false => rfl
        | true => rw [ckE_plcd ho hl hh] at hc; cases hc
      have := cgo_val r (pre ++ [o]) h (by simpa [or_imp, forall_and] using ⟨by simpa using h1, ho⟩) ?_ ?_
      · simpa using this
      · rw [List.pairwise_append]
        refine ⟨h2, by simp, fun a ha b hb => ?_⟩
        simp at hb; subst hb
        rcases List.eq_nil_or_concat pre with rfl | ⟨q, y, rfl⟩
        · simp at ha
        · simp only [List.concat_eq_append] at *
          have hy : y.2.1 < b.2.1 := by simpa [late] using hl
          rcases List.mem_append.1 ha with ha | ha
          · have := (List.pairwise_append.1 h2).2.2 a ha y (by simp)
            omega
          · simp at ha; subst ha; exact hy
      · rw [List.pairwise_append]
        refine ⟨h3, by simp, fun a ha b hb => ?_⟩
        simp at hb; subst hb
        simp [plcd] at hp
        exact hp a.1 a.2.1 a.2.2 ha
    · rw [cgo_bad hc] at h; exact absurd h hc
theorem cgo_ok : ∀ (r pre : List O), (∀ o ∈ r, oneE o = 0) → ((pre ++ r).Pairwise fun a b => a.2.1 < b.2.1) → ((pre ++ r).Pairwise fun a b => a.2.2 ≠ b.2.2) → cgo pre r = (0, 0)
  | [], pre, _, _, _ => rfl
  | o :: r, pre, h1, h2, h3 => by
    have hl : late pre o = false := by
      rcases List.eq_nil_or_concat pre with rfl | ⟨q, y, rfl⟩
      · rfl
      · simp only [List.concat_eq_append] at *
        have := (List.pairwise_append.1 h2).2.2 y (by simp) o (by simp)
        simp [late]; omega
    have hp : plcd pre o.2.2 = false := by
      simp [plcd]
      intro a b c hx
      exact (List.pairwise_append.1 h3).2.2 (a, b, c) hx o (by simp)
    rw [cgo_go (ckE_ok (h1 o (by simp)) hl hp)]
    exact cgo_ok r (pre ++ [o]) (fun x hx => h1 x (by simp [hx])) (by simpa using h2) (by simpa using h3)
theorem chk_val {l : List O} (h : (chk l).1 = 0) : Vl l := by
  unfold chk at h
  split at h
  · cases h
  · obtain ⟨h1, h2, h3⟩ := cgo_val l [] h (by simp) List.Pairwise.nil List.Pairwise.nil
    exact ⟨by omega, by simpa using h1, by simpa using h2, by simpa using h3⟩
theorem val_chk {l : List O} (h : Vl l) : chk l = (0, 0) := by
  unfold chk
  rw [if_neg (by have := h.len; omega)]
  exact cgo_ok l [] h.one (by simpa using h.age) (by simpa using h.at_)

/-- the places that are taken, as cells -/
def takN (m : Nat) (l : List O) (k : Nat) : List AV := (List.range m).map fun j : Nat => AV.d (.bool (plcd (l.take k) (j : Int)))
theorem takN_len (m : Nat) (l : List O) (k : Nat) : (takN m l k).length = m := by simp [takN]
theorem takN_at (m : Nat) (l : List O) (k j : Nat) : (takN m l k)[j]? = if j < m then some (AV.d (.bool (plcd (l.take k) (j : Int)))) else none := by
  unfold takN
  by_cases h : j < m <;> simp [h]
theorem takN_zero (m : Nat) (l : List O) : takN m l 0 = repA m (.d (.bool false)) := by
  apply List.ext_getElem?
  intro j
  rw [takN_at]
  by_cases h : j < m <;> simp [repA, h, plcd]
theorem takN_ren (ρ : Nat → Nat) (m : Nat) (l : List O) (k : Nat) : renL ρ (takN m l k) = takN m l k := by
  rw [renL_map]; unfold takN; rw [List.map_map]; rfl
theorem takN_get {m : Nat} {l : List O} {k : Nat} {n : Int} {K : AV → Prop} (h0 : 0 ≤ n) (h1 : n < m) (hk : K (.d (.bool (plcd (l.take k) n)))) : ∃ x, (List.drop n.toNat (takN m l k))[0]? = some x ∧ K x := by
  refine ⟨_, ?_, hk⟩
  have e : ((n.toNat : Nat) : Int) = n := by omega
  rw [List.getElem?_drop, takN_at, if_pos (by omega), Nat.add_zero, e]
theorem takN_set {m : Nat} {l : List O} {k : Nat} (hk : k < l.length) (h0 : 0 ≤ (l[k]).2.2) (h1 : (l[k]).2.2 < m) :
    List.take (l[k]).2.2.toNat (takN m l k) ++ AV.d (.bool true) :: List.drop ((l[k]).2.2.toNat + 1) (takN m l k) = takN m l (k + 1) := by
  have hstep : ∀ t : Int, plcd (l.take (k + 1)) t = (plcd (l.take k) t || decide ((l[k]).2.2 = t)) := by
    intro t; rw [take_get l k hk]; simp only [plcd, List.any_append, List.any_cons, List.any_nil, Bool.or_false]
  apply List.ext_getElem?
  intro j
  have hlen : (List.take (l[k]).2.2.toNat (takN m l k)).length = (l[k]).2.2.toNat := by rw [List.length_take, takN_len]; omega
  rcases Nat.lt_trichotomy j (l[k]).2.2.toNat with h | h | h
  · rw [List.getElem?_append_left (by omega), List.getElem?_take, if_pos h, takN_at, takN_at, hstep]
    have hne : ¬ (l[k]).2.2 = (j : Int) := by omega
    simp [hne]
  · subst h
    have e : (((l[k]).2.2.toNat : Nat) : Int) = (l[k]).2.2 := by omega
    rw [List.getElem?_append_right (by omega), hlen, takN_at, if_pos (by omega), hstep]
    simp [e]
  · rw [List.getElem?_append_right (by omega), hlen]
    obtain ⟨q, hq⟩ : ∃ q, j - (l[k]).2.2.toNat = q + 1 := ⟨j - (l[k]).2.2.toNat - 1, by omega⟩
    rw [hq, List.getElem?_cons_succ, List.getElem?_drop, show (l[k]).2.2.toNat + 1 + q = j by omega, takN_at, takN_at, hstep]
    have hne : ¬ (l[k]).2.2 = (j : Int) := by omega
    simp [hne]
def takB (l : List O) (k : Nat) : List AV := takN 2048 l k
theorem takB_len (l : List O) (k : Nat) : (takB l k).length = 2048 := takN_len _ l k
theorem takB_zero (l : List O) : takB l 0 = repA 2048 (.d (.bool false)) := takN_zero _ l
theorem takB_ren (ρ : Nat → Nat) (l : List O) (k : Nat) : renL ρ (takB l k) = takB l k := takN_ren ρ _ l k
theorem takB_get {l : List O} {k : Nat} {n : Int} {K : AV → Prop} (h0 : 0 ≤ n) (h1 : n < 2048) (hk : K (.d (.bool (plcd (l.take k) n)))) : ∃ x, (List.drop n.toNat (takB l k))[0]? = some x ∧ K x := takN_get h0 h1 hk
theorem takB_set {l : List O} {k : Nat} (hk : k < l.length) (h0 : 0 ≤ (l[k]).2.2) (h1 : (l[k]).2.2 < 2048) :
    List.take (l[k]).2.2.toNat (takB l k) ++ AV.d (.bool true) :: List.drop ((l[k]).2.2.toNat + 1) (takB l k) = takB l (k + 1) := takN_set hk h0 h1
end Go.Proofs.Ytpkiabhlmjnemaa
