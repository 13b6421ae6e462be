/- The walk of OrderKnown, from the engine's run of it. -/
import Derived.Test.YtdgeahemjcopkaaOrdK
set_option linter.unusedSimpArgs false
set_option linter.unusedVariables false
namespace Go.Proofs.Ytdgeahemjcopkaa.orderKnown
open Go.RowKit

theorem walk (w : World) : Calls Try.prog 10 #[] w fun e w' => e = .returned (.bool true) ∧ Below w.heap.size w w' :=
  law_scal known_ok [] w ⟨rfl, rfl, rfl, rfl⟩ rfl
end Go.Proofs.Ytdgeahemjcopkaa.orderKnown
