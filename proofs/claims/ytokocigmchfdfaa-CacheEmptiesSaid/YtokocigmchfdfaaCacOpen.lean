/- Opening arguments that are slices of ints. -/
import Derived.Test.YtokocigmchfdfaaOpen1
set_option linter.unusedSimpArgs false
set_option linter.unusedVariables false
namespace Go.Proofs.Ytokocigmchfdfaa
open Go.RowKit Go.ChangeShapes Go.WideShapes
theorem open_nums {H : Type} {enc : TypeId × Value → H} {W : World} {base : Nat} {v : Value} {d : DataW H} {p : List MemPlace}
    (hv : Value.okWide Try.prog W .any base 44 v) (h : DataW.Trod enc Try.prog W 0 (fun _ => true) true 44 v d p) :
    ∃ l : List Int, Rd encI 1 W v l ∧ (l.length ≤ maxLen ∧ ∀ x ∈ l, (Lit.int .i64 x).wf = true) :=
  open_intl Try.underlying44 Try.underlying3 (by kernel_rfl) hv h
end Go.Proofs.Ytokocigmchfdfaa
