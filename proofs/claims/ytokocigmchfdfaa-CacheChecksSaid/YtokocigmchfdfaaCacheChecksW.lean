/- The walk of CacheChecks, from the engine's run of it. -/
import Derived.Test.YtokocigmchfdfaaCacY
import Derived.Test.YtokocigmchfdfaaCacOpen2
set_option linter.unusedSimpArgs false
set_option linter.unusedVariables false
namespace Go.Proofs.Ytokocigmchfdfaa.cacheChecks
open Go.RowKit

theorem walk (v : Value) (l : List (Int × Int)) {W0 : World} (hr : Rd encVS 2 W0 v l ∧ (l.length ≤ maxLen ∧ ∀ s ∈ l, 0 ≤ s.2 ∧ s.2 ≤ 255)) (W : World) (hW : W0 = W := by rfl) :
    Calls Try.prog 8 #[v] W fun e w' => e = .returned (.bool true) ∧ Below W.heap.size W w' := by
  subst hW
  refine law_calls chk_ok [.d (.sl (l.map encDS))] W0 #[v] ⟨l, hr.2.2, rfl, rfl, rfl, rfl⟩ rfl (fun j z u hx hu => ?_)
  match j, hx, hu with
  | 0, hx, hu =>
    simp at hx hu
    subst hx hu
    exact .d (rd_data (encD := encDS) (fun _ => rfl) (fun _ => rfl) encS_sc hr.1)
end Go.Proofs.Ytokocigmchfdfaa.cacheChecks
