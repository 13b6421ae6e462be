/- Opening arguments that are slices of slabs. -/
import Derived.Test.YtokocigmchfdfaaOpen2
import Derived.Test.YtokocigmchfdfaaCacN
set_option linter.unusedSimpArgs false
set_option linter.unusedVariables false
namespace Go.Proofs.Ytokocigmchfdfaa
open Go.RowKit Go.ChangeShapes Go.WideShapes
theorem u8_bd {n : Int} (h : (Lit.int .u8 n).wf = true) : 0 ≤ n ∧ n ≤ 255 := by
  simpa [Lit.wf, IntKind.min, IntKind.max, IntKind.signed, IntKind.bits] using h
theorem open_slabs {H : Type} {enc : TypeId × Value → H} {W : World} {base : Nat} {v : Value} {d : DataW H} {p : List MemPlace}
    (hv : Value.okWide Try.prog W .any base 22 v) (h : DataW.Trod enc Try.prog W 0 (fun _ => true) true 22 v d p) :
    ∃ l : List (Int × Int), Rd encVS 2 W v l ∧ (l.length ≤ maxLen ∧ ∀ s ∈ l, 0 ≤ s.2 ∧ s.2 ≤ 255) := by
  obtain ⟨l, h1, h2, h3⟩ := open_pairs Try.underlying22 Try.underlying38 (by kernel_rfl) rfl rfl (by kernel_rfl) (by kernel_rfl) Try.underlying3 Try.underlying5 hv h
  exact ⟨l, h1, h2, fun s hs => u8_bd (h3 s hs).2⟩
end Go.Proofs.Ytokocigmchfdfaa
