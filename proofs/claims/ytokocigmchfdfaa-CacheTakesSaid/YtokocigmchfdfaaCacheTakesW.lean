/- The walk of CacheTakes, from the engine's run of it. -/
import Derived.Test.YtokocigmchfdfaaCacZ
import Derived.Test.YtokocigmchfdfaaCacOpen2
set_option linter.unusedSimpArgs false
set_option linter.unusedVariables false
namespace Go.Proofs.Ytokocigmchfdfaa.cacheTakes
open Go.RowKit

theorem walk (v : Value) (l : List (Int × Int)) {W0 : World} (hr : Rd encVS 2 W0 v l ∧ (l.length ≤ maxLen ∧ ∀ s ∈ l, 0 ≤ s.2 ∧ s.2 ≤ 255)) (f : Int) (_ : (Lit.int .i64 f).wf = true) (o : Int) (_ : (Lit.int .i64 o).wf = true) (W : World) (hW : W0 = W := by rfl) :
    Calls Try.prog 3 #[v, .int .i64 f, .int .i64 o] W fun e w' => e = .returned (.bool true) ∧ Below W.heap.size W w' := by
  subst hW
  refine law_calls tks_ok [.d (.sl (l.map encDS)), iv f, iv o] W0 #[v, .int .i64 f, .int .i64 o] ⟨l, f, o, hr.2.2, rfl, rfl, rfl, rfl⟩ rfl (fun j z u hx hu => ?_)
  match j, hx, hu with
  | 0, hx, hu =>
    simp at hx hu
    subst hx hu
    exact .d (rd_data (encD := encDS) (fun _ => rfl) (fun _ => rfl) encS_sc hr.1)
  | 1, hx, hu =>
    simp at hx hu
    subst hx hu
    exact .d .int
  | 2, hx, hu =>
    simp at hx hu
    subst hx hu
    exact .d .int
end Go.Proofs.Ytokocigmchfdfaa.cacheTakes
