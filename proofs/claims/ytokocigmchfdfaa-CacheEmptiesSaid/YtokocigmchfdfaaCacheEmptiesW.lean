/- The walk of CacheEmpties, from the engine's run of it. -/
import Derived.Test.YtokocigmchfdfaaCacT
import Derived.Test.YtokocigmchfdfaaCacOpen
set_option linter.unusedSimpArgs false
set_option linter.unusedVariables false
namespace Go.Proofs.Ytokocigmchfdfaa.cacheEmpties
open Go.RowKit

theorem walk (v : Value) (l : List Int) {W0 : World} (hr : Rd encI 1 W0 v l ∧ (l.length ≤ maxLen ∧ ∀ x ∈ l, (Lit.int .i64 x).wf = true)) (v' : Value) (l' : List Int) {W1 : World} (hr' : Rd encI 1 W1 v' l' ∧ (l'.length ≤ maxLen ∧ ∀ x ∈ l', (Lit.int .i64 x).wf = true)) (W : World) (hW : W0 = W := by rfl) (hW1 : W1 = W := by rfl) :
    Calls Try.prog 7 #[v, v'] W fun e w' => e = .returned (.bool true) ∧ Below W.heap.size W w' := by
  subst hW
  subst hW1
  refine law_calls emp_ok [.d (.sl (l.map encDI)), .d (.sl (l'.map encDI))] _ #[v, v'] ⟨l, l', rfl, rfl, rfl, rfl⟩ rfl (fun j z u hx hu => ?_)
  match j, hx, hu with
  | 0, hx, hu =>
    simp at hx hu
    subst hx hu
    exact .d (rd_data (encD := encDI) (fun _ => rfl) (fun _ => rfl) encI_sc hr.1)
  | 1, hx, hu =>
    simp at hx hu
    subst hx hu
    exact .d (rd_data (encD := encDI) (fun _ => rfl) (fun _ => rfl) encI_sc hr'.1)
end Go.Proofs.Ytokocigmchfdfaa.cacheEmpties
