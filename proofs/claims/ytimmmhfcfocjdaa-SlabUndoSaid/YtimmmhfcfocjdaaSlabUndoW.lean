/- The walk of SlabUndo, from the engine's run of it. -/
import Derived.Test.YtimmmhfcfocjdaaSlabV
set_option linter.unusedSimpArgs false
set_option linter.unusedVariables false
namespace Go.Proofs.Ytimmmhfcfocjdaa.slabUndo
open Go.RowKit

theorem walk (n : Int) (wf : (Lit.int .i64 n).wf = true) (w : World) :
    Calls Try.prog 6 #[.int .i64 n] w fun e w' => e = .returned (.bool true) ∧ Below w.heap.size w w' := by
  obtain ⟨n0, n1⟩ := wf_bd wf
  exact law_scal undo_ok [iv n] w ⟨n, n0, n1, rfl, rfl, rfl, rfl⟩ rfl
end Go.Proofs.Ytimmmhfcfocjdaa.slabUndo
