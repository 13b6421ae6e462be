/- The walk of OrderWhole, from the engine's run of it. -/
import Derived.Test.YtdgeahemjcopkaaOrdWL
import Derived.Test.YtdgeahemjcopkaaOpen1
set_option linter.unusedSimpArgs false
set_option linter.unusedVariables false
namespace Go.Proofs.Ytdgeahemjcopkaa.orderWhole
open Go.RowKit Go.ChangeShapes Go.WideShapes

theorem open_nums {H : Type} {enc : TypeId × Value → H} {W : World} {base : Nat} {v : Value} {d : DataW H} {p : List MemPlace}
    (hv : Value.okWide Try.prog W .any base 38 v) (h : DataW.Trod enc Try.prog W 0 (fun _ => true) true 38 v d p) :
    ∃ l : List Int, Rd encI 1 W v l ∧ (l.length ≤ maxLen ∧ ∀ x ∈ l, (Lit.int .i64 x).wf = true) :=
  open_intl Try.underlying38 Try.underlying3 (by kernel_rfl) hv h

theorem walk (x : Int) (_ : (Lit.int .i64 x).wf = true) (y : Int) (_ : (Lit.int .i64 y).wf = true) (v : Value) (l : List Int) {W0 : World} (hr : Rd encI 1 W0 v l ∧ (l.length ≤ maxLen ∧ ∀ x ∈ l, (Lit.int .i64 x).wf = true)) (W : World) (hW : W0 = W := by rfl) :
    Calls Try.prog 9 #[.int .i64 x, .int .i64 y, v] W fun e w' => e = .returned (.bool true) ∧ Below W.heap.size W w' := by
  subst hW
  refine law_calls whole_ok [iv x, iv y, .d (.sl (l.map encDI))] W0 #[.int .i64 x, .int .i64 y, v] ⟨x, y, l, rfl, rfl, rfl, rfl⟩ rfl (fun j z u hx hu => ?_)
  match j, hx, hu with
  | 0, hx, hu => simp at hx hu; subst hx hu; exact .d .int
  | 1, hx, hu => simp at hx hu; subst hx hu; exact .d .int
  | 2, hx, hu =>
    simp at hx hu
    subst hx hu
    exact .d (rd_data (encD := encDI) (fun _ => rfl) (fun _ => rfl) encI_sc hr.1)
end Go.Proofs.Ytdgeahemjcopkaa.orderWhole
