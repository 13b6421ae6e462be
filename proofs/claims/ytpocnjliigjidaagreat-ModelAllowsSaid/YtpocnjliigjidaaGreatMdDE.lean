import Derived.Test.YtpocnjliigjidaaGreatMdDA
import Derived.Test.YtpocnjliigjidaaGreatMdDB
import Derived.Test.YtpocnjliigjidaaGreatMdDC
/- The reference's ranges of an outcome's fields: the fields that are not used. -/
namespace Go.Proofs.YtpocnjliigjidaaGreat
open Go.RowKit
set_option maxRecDepth 100000
set_option linter.unusedSimpArgs false
set_option linter.unusedVariables false
abbrev lv92MdDE : List (Nat × List Nat) := [(0, [1]), (1, [1, 3]), (2, [1, 3, 4]), (3, [1, 3, 4, 5]), (4, [2])]
def unuOS : Spec := { rel := fun args ins res outs => ∃ x : Oc, 1 ≤ x.k ∧ x.k ≤ 11 ∧ args = [ocA x] ∧ ins = [] ∧ res = bv (unuO x) ∧ outs = [] }
theorem unuO_at (x : Oc) (h1 : 1 ≤ x.k) (h2 : x.k ≤ 11) {b : Bool} (h : unuO x = b) : unuOS.rel [ocA x] [] (bv b) [] := ⟨x, h1, h2, rfl, rfl, by rw [h], rfl⟩
set_option maxHeartbeats 8000000 in
theorem unuO_ok : Ok Tryz.prog 92 unuOS := by
  refine fn_ok unuOS Tryz.func92 rfl rfl ?_
  rintro args ins res outs ⟨⟨K, p, o, g, w, t, v⟩, h1, h2, rfl, rfl, rfl, rfl⟩
  refine ⟨by simp [Tryz.ntmps92], fun w0 V Bo mu0 => ?_⟩
  dsimp only at h1 h2
  rcases (show K = 1 ∨ K = 2 ∨ K = 3 ∨ K = 4 ∨ K = 5 ∨ K = 6 ∨ K = 7 ∨ K = 8 ∨ K = 9 ∨ K = 10 ∨ K = 11 by omega) with rfl | rfl | rfl | rfl | rfl | rfl | rfl | rfl | rfl | rfl | rfl
  all_goals
    repeat' (first | refine sA ?_ | ((with_reducible first | refine hK _ ?_ | refine hK _ _ ?_); clear hK K) | ((first | refine sB ?_ | (with_reducible first | refine ops_cons (fun K hK => ?_) | refine W_reg lv92MdDE ?_) | with_reducible refine callV_snap ?_ | ((with_reducible refine call_go usesS uses_ok ?_); refine ⟨alk, _, _, uses_at (by omega) (by omega) (by first | (refine Eq.trans (b := true) ?_ rfl; decide +kernel) | (refine Eq.trans (b := false) ?_ rfl; decide +kernel)), ?_⟩) | with_reducible refine And.intro (fun h => ?_) (fun h => ?_) | with_reducible refine And.intro (by omega) ?_); (try simp only [go_sem, seval, reduceCtorEq, lv92MdDE, Tryz.ntmps92, Tryz.results92, unuOS])) | fail)
  all_goals first | (exfalso; omega) | (simp [unuO]; omega) | (simp [unuO]; done) | (simp [unuO, *]; done) | trace_state
end Go.Proofs.YtpocnjliigjidaaGreat
