/- What opened arguments are: numbers, lists of numbers, zones. -/
import Derived.Test.YtniiaaagammebaaOpenZ
import Derived.Test.YtniiaaagammebaaBdAA
namespace Go.Proofs.Ytniiaaagammebaa
open Go.RowKit
set_option linter.unusedSimpArgs false
set_option linter.unusedVariables false

theorem fit_int {d : D} (h : Fit (.int .i64) d) : ∃ n : Int, d = .int .i64 n ∧ (Lit.int .i64 n).wf = true := by
  cases d with
  | int k n => simp only [Fit] at h; obtain ⟨rfl, h⟩ := h; exact ⟨n, rfl, h⟩
  | _ => simp [Fit] at h
theorem fit_w64 {d : D} (h : Fit (.int .u64) d) : ∃ n : Int, d = .int .u64 n ∧ (Lit.int .u64 n).wf = true := by
  cases d with
  | int k n => simp only [Fit] at h; obtain ⟨rfl, h⟩ := h; exact ⟨n, rfl, h⟩
  | _ => simp [Fit] at h
theorem fit_list {α : Type} {enc : α → List D} {cs : List CSh} {Q : α → Prop} (he : ∀ r, FitL cs r → ∃ x, r = enc x ∧ Q x) {d : D} (h : Fit (.sl cs) d) : ∃ l : List α, d = .sl (l.map enc) ∧ l.length ≤ maxLen ∧ ∀ x ∈ l, Q x := by
  cases d with
  | sl rows =>
    simp only [Fit] at h
    obtain ⟨h1, h2⟩ := h
    have key : ∀ rows : List (List D), (∀ r ∈ rows, FitL cs r) → ∃ l : List α, rows = l.map enc ∧ ∀ x ∈ l, Q x := by
      intro rows
      induction rows with
      | nil => intro _; exact ⟨[], rfl, by simp⟩
      | cons r rows ih =>
        intro h
        obtain ⟨x, rfl, hx⟩ := he r (h r (by simp))
        obtain ⟨l, rfl, hl⟩ := ih (fun r hr => h r (by simp [hr]))
        exact ⟨x :: l, rfl, by simpa using ⟨hx, hl⟩⟩
    obtain ⟨l, rfl, hl⟩ := key rows h2
    exact ⟨l, rfl, by simpa using h1, hl⟩
  | _ => simp [Fit] at h
theorem fitl1 {s : CSh} {r : List D} (h : FitL [s] r) : ∃ x, r = [x] ∧ Fit s x := by
  match r, h with
  | [x], h => simp only [FitL, and_true] at h; exact ⟨x, rfl, h⟩
  | [], h => simp [FitL] at h
  | _ :: _ :: _, h => simp [FitL] at h
theorem fit_ints {d : D} (h : Fit (.sl [.int .i64]) d) : ∃ l : List Int, d = .sl (l.map encDI) ∧ l.length ≤ maxLen ∧ ∀ x ∈ l, (Lit.int .i64 x).wf = true :=
  fit_list (fun r hr => by
    obtain ⟨x, rfl, hx⟩ := fitl1 hr
    obtain ⟨n, rfl, hn⟩ := fit_int hx
    exact ⟨n, rfl, hn⟩) h
theorem fit_blk {r : List D} (h : FitL [.int .i64, .int .i64] r) : ∃ b : Bi, r = encBk b ∧ True := by
  match r, h with
  | [a, b], h =>
    simp only [FitL, and_true] at h
    obtain ⟨h1, h2⟩ := h
    obtain ⟨x, rfl, _⟩ := fit_int h1
    obtain ⟨y, rfl, _⟩ := fit_int h2
    exact ⟨(x, y), rfl, trivial⟩
  | [], h => simp [FitL] at h
  | [_], h => simp [FitL] at h
  | _ :: _ :: _ :: _, h => simp [FitL] at h
theorem fit_zone {ds : List D} (h : FitL [.int .i64, .sl [.int .i64, .int .i64]] ds) : ∃ x : Int × List Bi, ds = [.int .i64 x.1, .sl (x.2.map encBk)] ∧ x.2.length ≤ maxLen := by
  match ds, h with
  | [a, b], h =>
    simp only [FitL, and_true] at h
    obtain ⟨h1, h2⟩ := h
    obtain ⟨n, rfl, _⟩ := fit_int h1
    obtain ⟨l, rfl, hl, _⟩ := fit_list (enc := encBk) (Q := fun _ => True) (fun r hr => fit_blk hr) h2
    exact ⟨(n, l), rfl, hl⟩
  | [], h => simp [FitL] at h
  | [_], h => simp [FitL] at h
  | _ :: _ :: _ :: _, h => simp [FitL] at h
end Go.Proofs.Ytniiaaagammebaa
