/- What opened arguments are: numbers, lists of numbers, objects. -/
import Derived.Test.YtpkiabhlmjnemaaOpenD
import Derived.Test.YtpkiabhlmjnemaaBase
import Derived.Test.YtpkiabhlmjnemaaShrA
namespace Go.Proofs.Ytpkiabhlmjnemaa
set_option linter.unusedVariables false

theorem fit_int {d : D} (h : Fit (.int .i64) d) : ∃ n : Int, d = .int .i64 n ∧ (Lit.int .i64 n).wf = true := by
  cases d with
  | int k n => simp only [Fit] at h; obtain ⟨rfl, h⟩ := h; exact ⟨n, rfl, h⟩
  | _ => simp [Fit] at h
theorem fit_w64 {d : D} (h : Fit (.int .u64) d) : ∃ n : Int, d = .int .u64 n ∧ (Lit.int .u64 n).wf = true := by
  cases d with
  | int k n => simp only [Fit] at h; obtain ⟨rfl, h⟩ := h; exact ⟨n, rfl, h⟩
  | _ => simp [Fit] at h
theorem fit_list {α : Type} {enc : α → List D} {cs : List Sh} {Q : α → Prop} (he : ∀ r, FitL cs r → ∃ x, r = enc x ∧ Q x) {d : D} (h : Fit (.sl cs) d) : ∃ l : List α, d = .sl (l.map enc) ∧ l.length ≤ maxLen ∧ ∀ x ∈ l, Q x := by
  cases d with
  | sl rows =>
    simp only [Fit] at h
    obtain ⟨h1, h2⟩ := h
    have key : ∀ rows : List (List D), (∀ r ∈ rows, FitL cs r) → ∃ l : List α, rows = l.map enc ∧ ∀ x ∈ l, Q x := by
      intro rows
      induction rows with
      | nil => intro _; exact ⟨[], rfl, by simp⟩
      | cons r rows ih =>
        intro h
        obtain ⟨x, rfl, hx⟩ := he r (h r (by simp))
        obtain ⟨l, rfl, hl⟩ := ih (fun r hr => h r (by simp [hr]))
        exact ⟨x :: l, rfl, by simpa using ⟨hx, hl⟩⟩
    obtain ⟨l, rfl, hl⟩ := key rows h2
    exact ⟨l, rfl, by simpa using h1, hl⟩
  | _ => simp [Fit] at h
theorem fitl1 {s : Sh} {r : List D} (h : FitL [s] r) : ∃ x, r = [x] ∧ Fit s x := by
  match r, h with
  | [x], h => simp only [FitL, and_true] at h; exact ⟨x, rfl, h⟩
  | [], h => simp [FitL] at h
  | _ :: _ :: _, h => simp [FitL] at h
theorem fit_ints {d : D} (h : Fit (.sl [.int .i64]) d) : ∃ l : List Int, d = .sl (l.map encDI) ∧ l.length ≤ maxLen ∧ ∀ x ∈ l, (Lit.int .i64 x).wf = true :=
  fit_list (fun r hr => by
    obtain ⟨x, rfl, hx⟩ := fitl1 hr
    obtain ⟨n, rfl, hn⟩ := fit_int hx
    exact ⟨n, rfl, hn⟩) h
theorem fit_obj {ds : List D} (h : FitL [.int .i64, .int .u64, .int .i64] ds) : ∃ o : O, ds = encDO o ∧ (Lit.int .u64 o.2.1).wf = true := by
  match ds, h with
  | [a, b, c], h =>
    simp only [FitL, and_true] at h
    obtain ⟨h1, h2, h3⟩ := h
    obtain ⟨x, rfl, _⟩ := fit_int h1
    obtain ⟨y, rfl, hy⟩ := fit_w64 h2
    obtain ⟨z, rfl, _⟩ := fit_int h3
    exact ⟨(x, y, z), rfl, hy⟩
  | [], h => simp [FitL] at h
  | [_], h => simp [FitL] at h
  | [_, _], h => simp [FitL] at h
  | _ :: _ :: _ :: _ :: _, h => simp [FitL] at h
theorem fit_objs {d : D} (h : Fit (.sl [.int .i64, .int .u64, .int .i64]) d) : ∃ l : List O, d = .sl (l.map encDO) ∧ l.length ≤ maxLen ∧ ∀ x ∈ l, (Lit.int .u64 x.2.1).wf = true :=
  fit_list (fun r hr => fit_obj hr) h
end Go.Proofs.Ytpkiabhlmjnemaa
