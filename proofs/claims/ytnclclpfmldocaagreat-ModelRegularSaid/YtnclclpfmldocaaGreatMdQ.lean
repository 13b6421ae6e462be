/- Stories made of numbers: what a number asks for, the trace it gives, and what such a trace is like. -/
import Derived.Test.YtnclclpfmldocaaGreatMdP
namespace Go.Proofs.YtnclclpfmldocaaGreat
open Go.RowKit
set_option maxRecDepth 100000
set_option linter.unusedSimpArgs false
set_option linter.unusedVariables false

def numM (n : Int) : Nat := (n % 68719476736).toNat
/-- the outcome that a number asks for -/
def outc (s : Sy) (k b : Nat) (f : Bool) : Oc :=
  if k % 16 = 0 ∨ k % 16 = 1 then ⟨1, ((b + 1 + k / 16 % 4 : Nat) : Int), ((k / 64 % 6 + k / 512 % 4 : Nat) : Int), ((k / 64 % 6 : Nat) : Int), 0, 0, 0⟩
  else if k % 16 = 2 then ⟨2, ((b + 1 + k / 16 % 4 : Nat) : Int), ((k / 64 % 6 + k / 512 % 2 : Nat) : Int), ((k / 64 % 6 : Nat) : Int), 0, 0, 0⟩
  else if k % 16 = 3 ∨ k % 16 = 4 then ⟨9, ((b + 1 + k / 16 % 4 : Nat) : Int), 0, 0, 0, s.L + 1 + k / 64 % 3, 0⟩
  else if k % 16 = 5 ∨ k % 16 = 6 ∨ k % 16 = 7 then ⟨6, ((b + 1 + k / 16 % 4 : Nat) : Int), 0, 0, 0, s.W[b + k / 16 % 4]?.getD 0, 0⟩
  else if k % 16 = 8 then ⟨8, ((b + 1 + k / 16 % 4 : Nat) : Int), 0, ((k / 64 % 6 : Nat) : Int), ((k / 512 % 3 : Nat) : Int), 0, 0⟩
  else if k % 16 = 9 ∨ k % 16 = 10 then ⟨4, ((b + 1 + k / 16 % 4 : Nat) : Int), 0, ((k / 64 % 6 : Nat) : Int), ((k / 512 % 3 : Nat) : Int), s.W[b + k / 16 % 4]?.getD 0, k / 64 % 5⟩
  else if k % 16 = 11 ∨ k % 16 = 12 then ⟨3, ((b + 1 + k / 16 % 4 : Nat) : Int), 0, ((k / 64 % 6 : Nat) : Int), ((k / 512 % 3 : Nat) : Int), s.W[b + k / 16 % 4]?.getD 0, k / 4096 % 5⟩
  else if k % 16 = 13 then (if f = true then ⟨5, ((b + 1 + k / 16 % 4 : Nat) : Int), ((b + 1 + (1 + k / 16 % 4 + k / 64 % 3) % 4 : Nat) : Int), 0, 0, s.W[b + k / 16 % 4]?.getD 0, 0⟩ else ⟨11, ((b + 1 + k / 16 % 4 : Nat) : Int), 0, 0, 0, s.W[b + k / 16 % 4]?.getD 0, 7⟩)
  else if k % 16 = 14 then ⟨10, ((b + 1 + k / 16 % 4 : Nat) : Int), 0, 0, 0, s.W[b + k / 16 % 4]?.getD 0, 0⟩
  else ⟨7, ((b + 1 + k / 16 % 4 : Nat) : Int), 0, 0, 0, 0, 0⟩
theorem outc_p (s : Sy) (k b : Nat) (f : Bool) : (outc s k b f).p = ((b + 1 + k / 16 % 4 : Nat) : Int) := by
  unfold outc
  repeat' split
  all_goals rfl
theorem outc_k (s : Sy) (k b : Nat) : (outc s k b false).k ≠ 5 := by
  unfold outc
  rw [if_neg (show ¬ (false = true) by decide)]
  repeat' split
  all_goals (dsimp only; decide)
theorem outc_t (s : Sy) (k b : Nat) (f : Bool) (h : (outc s k b f).k = 9) : (outc s k b f).t ≤ s.L + 3 := by
  unfold outc at h ⊢
  repeat' split
  all_goals first | (dsimp only; omega) | (simp_all; done)
/-- the story after an outcome, if it is valid and allowed -/
def tak (s : Sy) (x : Oc) : Option Sy := if ocE x = 0 then nx s x else none
def madS1 (b : Nat) (f : Bool) (a : List Oc × Sy) (n : Int) : List Oc × Sy := match tak a.2 (outc a.2 (numM n) b f) with
  | some t => (a.1 ++ [outc a.2 (numM n) b f], t)
  | none => a
def madO (b : Nat) (f : Bool) (l : List Int) : List Oc × Sy := l.foldl (madS1 b f) ([], sy0)
/-- what is so of the trace and the story -/
structure Mk (b : Nat) (f : Bool) (a : List Oc × Sy) : Prop where
  r : run sy0 a.1 = some a.2
  o : ∀ x ∈ a.1, ocE x = 0
  v : Vs a.2
  p : ∀ x ∈ a.1, (b : Int) + 1 ≤ x.p ∧ x.p ≤ (b : Int) + 4
  n : f = false → ∀ x ∈ a.1, x.k ≠ 5
  t : ∀ x ∈ a.1, x.t ≤ a.2.L
theorem mk_nil (b : Nat) (f : Bool) : Mk b f ([], sy0) := ⟨rfl, by simp, sy0_vs, by simp, by simp, by simp⟩
theorem mk_step {b : Nat} {f : Bool} {a : List Oc × Sy} (h : Mk b f a) (n : Int) : Mk b f (madS1 b f a n) ∧ (madS1 b f a n).1.length ≤ a.1.length + 1 ∧ (madS1 b f a n).2.L ≤ a.2.L + 3 := by
  unfold madS1
  cases ht : tak a.2 (outc a.2 (numM n) b f) with
  | none => exact ⟨h, by dsimp only; omega, by dsimp only; omega⟩
  | some t =>
    dsimp only
    unfold tak at ht
    by_cases h0 : ocE (outc a.2 (numM n) b f) = 0
    case neg => rw [if_neg h0] at ht; cases ht
    rw [if_pos h0] at ht
    have hp := outc_p a.2 (numM n) b f
    have hk : f = false → (outc a.2 (numM n) b f).k ≠ 5 := fun e => by subst e; exact outc_k _ _ _
    have hl := outc_t a.2 (numM n) b f
    have hv := nx_vs h.v h0 ht
    generalize outc a.2 (numM n) b f = x at *
    have hLt : a.2.L ≤ t.L ∧ t.L ≤ a.2.L + 3 ∧ x.t ≤ t.L := by
      unfold nx at ht
      by_cases h9 : x.k = 9
      · rw [if_pos h9] at ht
        by_cases hc : a.2.W[ix x.p]?.getD 0 = 0 ∧ a.2.L < x.t
        · rw [if_pos hc] at ht; injection ht with ht; subst ht; have := hl h9; dsimp only; omega
        · rw [if_neg hc] at ht; cases ht
      · rw [if_neg h9] at ht
        by_cases hc : a.2.W[ix x.p]?.getD 0 = x.t ∧ (opO x a.2.m).2 = 0
        · rw [if_pos hc] at ht; injection ht with ht; subst ht; have := h.v.le (ix x.p); dsimp only; omega
        · rw [if_neg hc] at ht; cases ht
    refine ⟨⟨?_, ?_, hv, ?_, ?_, ?_⟩, by simp, hLt.2.1⟩
    · rw [run_app, h.r]; exact (run_one _ _).trans ht
    · intro y hy
      rcases List.mem_append.1 hy with hy | hy
      · exact h.o y hy
      · simp at hy; exact hy ▸ h0
    · intro y hy
      rcases List.mem_append.1 hy with hy | hy
      · exact h.p y hy
      · simp at hy; subst hy; rw [hp]; omega
    · intro e y hy
      rcases List.mem_append.1 hy with hy | hy
      · exact h.n e y hy
      · simp at hy; exact hy ▸ hk e
    · intro y hy
      rcases List.mem_append.1 hy with hy | hy
      · have := h.t y hy; dsimp only; omega
      · simp at hy; subst hy; exact hLt.2.2
theorem mk_fold {b : Nat} {f : Bool} : ∀ (l : List Int) (a : List Oc × Sy), Mk b f a → Mk b f (l.foldl (madS1 b f) a) ∧ (l.foldl (madS1 b f) a).1.length ≤ a.1.length + l.length ∧ (l.foldl (madS1 b f) a).2.L ≤ a.2.L + 3 * l.length
  | [], a, h => ⟨h, by simp, by simp⟩
  | n :: l, a, h => by
    obtain ⟨h1, h2, h3⟩ := mk_step h n
    obtain ⟨g1, g2, g3⟩ := mk_fold l _ h1
    rw [List.foldl_cons, List.length_cons]
    exact ⟨g1, by omega, by omega⟩
theorem mk_mad (b : Nat) (f : Bool) (l : List Int) : Mk b f (madO b f l) ∧ (madO b f l).1.length ≤ l.length ∧ (madO b f l).2.L ≤ 3 * l.length := by
  obtain ⟨h1, h2, h3⟩ := mk_fold (b := b) (f := f) l _ (mk_nil b f)
  refine ⟨h1, ?_, ?_⟩
  · rw [List.length_nil, Nat.zero_add] at h2; exact h2
  · rw [show (([], sy0) : List Oc × Sy).2.L = 0 from rfl, Nat.zero_add] at h3; exact h3
theorem madO_succ {b : Nat} {f : Bool} {l : List Int} {i : Nat} (h : i < l.length) : madO b f (l.take (i + 1)) = madS1 b f (madO b f (l.take i)) l[i] := by
  unfold madO
  rw [take_get l i h, List.foldl_append]
  rfl
end Go.Proofs.YtnclclpfmldocaaGreat
