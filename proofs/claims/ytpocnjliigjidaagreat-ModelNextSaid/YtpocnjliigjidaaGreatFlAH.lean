import Derived.Test.YtpocnjliigjidaaGreatMdDA
import Derived.Test.YtpocnjliigjidaaGreatFlAI
/- The reference's ranges of an outcome's fields, the kinds 5 to 8. -/
namespace Go.Proofs.YtpocnjliigjidaaGreat
open Go.RowKit
set_option maxRecDepth 100000
set_option linter.unusedSimpArgs false
set_option linter.unusedVariables false
abbrev lv91MdDB : List (Nat × List Nat) := [(0, [1]), (1, [1, 3]), (2, [1, 3, 6]), (3, [2]), (4, [1, 3, 11]), (5, [2]), (6, [1, 3, 28]), (7, [2]), (8, [1, 3, 37]), (9, [2]), (10, [1, 3, 46]), (11, [2]), (12, [1, 3, 62]), (13, [2]), (14, [2])]
set_option maxHeartbeats 8000000 in
theorem rnB_ok : Ok Tryz.prog 91 rnBS := by
  refine fn_ok rnBS Tryz.func91 rfl rfl ?_
  rintro args ins res outs ⟨⟨K, p, o, g, w, t, v⟩, h1, h2, rfl, rfl, rfl, rfl⟩
  refine ⟨by simp [Tryz.ntmps91], fun w0 V Bo mu0 => ?_⟩
  dsimp only at h1 h2
  rcases (show K = 5 ∨ K = 6 ∨ K = 7 ∨ K = 8 by omega) with rfl | rfl | rfl | rfl
  · rcases (show ((1 ≤ p ∧ p ≤ 8) ∧ (1 ≤ o ∧ o ≤ 8) ∧ o ≠ p ∧ 1 ≤ t ∧ t ≤ 1099511627776) ∨ (¬ (1 ≤ p ∧ p ≤ 8)) ∨ ((1 ≤ p ∧ p ≤ 8) ∧ ¬ (1 ≤ o ∧ o ≤ 8)) ∨ ((1 ≤ p ∧ p ≤ 8) ∧ (1 ≤ o ∧ o ≤ 8) ∧ ¬ (o ≠ p)) ∨ ((1 ≤ p ∧ p ≤ 8) ∧ (1 ≤ o ∧ o ≤ 8) ∧ o ≠ p ∧ ¬ (1 ≤ t)) ∨ ((1 ≤ p ∧ p ≤ 8) ∧ (1 ≤ o ∧ o ≤ 8) ∧ o ≠ p ∧ 1 ≤ t ∧ ¬ (t ≤ 1099511627776)) by omega) with h | h | h | h | h | h
    all_goals
      repeat' (first | refine sA ?_ | with_reducible refine W_tf rfl (fun h => ?_) (fun h => ?_) | ((with_reducible first | refine hK _ ?_ | refine hK _ _ ?_); clear hK K) | ((first | refine sB ?_ | (with_reducible first | refine ops_cons (fun K hK => ?_) | refine opsd_cons (fun K hK => ?_) | refine W_reg lv91MdDB ?_ | refine W_drw lv91MdDB (by kernel_rfl) ?_) | ((with_reducible refine opsd_nil ?_); refine And.intro (by kernel_rfl) ?_) | with_reducible refine callV_snap ?_ | ((with_reducible refine call_go inBS inB_ok ?_); refine ⟨alk, _, _, inB_at (by first | exact decide_eq_true (by omega) | exact decide_eq_false (by omega)), ?_⟩) | ((with_reducible refine call_go usesS uses_ok ?_); refine ⟨alk, _, _, uses_at (by omega) (by omega) (by first | (refine Eq.trans (b := true) ?_ rfl; decide +kernel) | (refine Eq.trans (b := false) ?_ rfl; decide +kernel)), ?_⟩) | ((with_reducible refine call_go lstTS lstT_ok ?_); refine ⟨alk, _, _, lstT_at _ (by first | (refine Eq.trans (b := 0) ?_ rfl; decide) | (refine Eq.trans (b := 1) ?_ rfl; decide)), ?_⟩) | with_reducible refine And.intro (fun h => ?_) (fun h => ?_) | with_reducible refine And.intro (by omega) ?_); (try simp only [go_sem, seval, reduceCtorEq, lv91MdDB, Tryz.ntmps91, Tryz.results91, rnBS])) | fail)
    all_goals first | (exfalso; omega) | (simp [rngB, fitO, mxT]; omega) | (simp [rngB, fitO, mxT]; done) | trace_state
  · rcases (show ((1 ≤ p ∧ p ≤ 8) ∧ 1 ≤ t ∧ t ≤ 1099511627776) ∨ (¬ (1 ≤ p ∧ p ≤ 8)) ∨ ((1 ≤ p ∧ p ≤ 8) ∧ ¬ (1 ≤ t)) ∨ ((1 ≤ p ∧ p ≤ 8) ∧ 1 ≤ t ∧ ¬ (t ≤ 1099511627776)) by omega) with h | h | h | h
    all_goals
      repeat' (first | refine sA ?_ | with_reducible refine W_tf rfl (fun h => ?_) (fun h => ?_) | ((with_reducible first | refine hK _ ?_ | refine hK _ _ ?_); clear hK K) | ((first | refine sB ?_ | (with_reducible first | refine ops_cons (fun K hK => ?_) | refine opsd_cons (fun K hK => ?_) | refine W_reg lv91MdDB ?_ | refine W_drw lv91MdDB (by kernel_rfl) ?_) | ((with_reducible refine opsd_nil ?_); refine And.intro (by kernel_rfl) ?_) | with_reducible refine callV_snap ?_ | ((with_reducible refine call_go inBS inB_ok ?_); refine ⟨alk, _, _, inB_at (by first | exact decide_eq_true (by omega) | exact decide_eq_false (by omega)), ?_⟩) | ((with_reducible refine call_go usesS uses_ok ?_); refine ⟨alk, _, _, uses_at (by omega) (by omega) (by first | (refine Eq.trans (b := true) ?_ rfl; decide +kernel) | (refine Eq.trans (b := false) ?_ rfl; decide +kernel)), ?_⟩) | ((with_reducible refine call_go lstTS lstT_ok ?_); refine ⟨alk, _, _, lstT_at _ (by first | (refine Eq.trans (b := 0) ?_ rfl; decide) | (refine Eq.trans (b := 1) ?_ rfl; decide)), ?_⟩) | with_reducible refine And.intro (fun h => ?_) (fun h => ?_) | with_reducible refine And.intro (by omega) ?_); (try simp only [go_sem, seval, reduceCtorEq, lv91MdDB, Tryz.ntmps91, Tryz.results91, rnBS])) | fail)
    all_goals first | (exfalso; omega) | (simp [rngB, fitO, mxT]; omega) | (simp [rngB, fitO, mxT]; done) | trace_state
  · rcases (show ((1 ≤ p ∧ p ≤ 8)) ∨ (¬ (1 ≤ p ∧ p ≤ 8)) by omega) with h | h
    all_goals
      repeat' (first | refine sA ?_ | with_reducible refine W_tf rfl (fun h => ?_) (fun h => ?_) | ((with_reducible first | refine hK _ ?_ | refine hK _ _ ?_); clear hK K) | ((first | refine sB ?_ | (with_reducible first | refine ops_cons (fun K hK => ?_) | refine opsd_cons (fun K hK => ?_) | refine W_reg lv91MdDB ?_ | refine W_drw lv91MdDB (by kernel_rfl) ?_) | ((with_reducible refine opsd_nil ?_); refine And.intro (by kernel_rfl) ?_) | with_reducible refine callV_snap ?_ | ((with_reducible refine call_go inBS inB_ok ?_); refine ⟨alk, _, _, inB_at (by first | exact decide_eq_true (by omega) | exact decide_eq_false (by omega)), ?_⟩) | ((with_reducible refine call_go usesS uses_ok ?_); refine ⟨alk, _, _, uses_at (by omega) (by omega) (by first | (refine Eq.trans (b := true) ?_ rfl; decide +kernel) | (refine Eq.trans (b := false) ?_ rfl; decide +kernel)), ?_⟩) | ((with_reducible refine call_go lstTS lstT_ok ?_); refine ⟨alk, _, _, lstT_at _ (by first | (refine Eq.trans (b := 0) ?_ rfl; decide) | (refine Eq.trans (b := 1) ?_ rfl; decide)), ?_⟩) | with_reducible refine And.intro (fun h => ?_) (fun h => ?_) | with_reducible refine And.intro (by omega) ?_); (try simp only [go_sem, seval, reduceCtorEq, lv91MdDB, Tryz.ntmps91, Tryz.results91, rnBS])) | fail)
    all_goals first | (exfalso; omega) | (simp [rngB, fitO, mxT]; omega) | (simp [rngB, fitO, mxT]; done) | trace_state
  · rcases (show ((1 ≤ p ∧ p ≤ 8) ∧ (0 ≤ g ∧ g ≤ 63) ∧ (0 ≤ w ∧ w ≤ 7)) ∨ (¬ (1 ≤ p ∧ p ≤ 8)) ∨ ((1 ≤ p ∧ p ≤ 8) ∧ ¬ (0 ≤ g ∧ g ≤ 63)) ∨ ((1 ≤ p ∧ p ≤ 8) ∧ (0 ≤ g ∧ g ≤ 63) ∧ ¬ (0 ≤ w ∧ w ≤ 7)) by omega) with h | h | h | h
    all_goals
      repeat' (first | refine sA ?_ | with_reducible refine W_tf rfl (fun h => ?_) (fun h => ?_) | ((with_reducible first | refine hK _ ?_ | refine hK _ _ ?_); clear hK K) | ((first | refine sB ?_ | (with_reducible first | refine ops_cons (fun K hK => ?_) | refine opsd_cons (fun K hK => ?_) | refine W_reg lv91MdDB ?_ | refine W_drw lv91MdDB (by kernel_rfl) ?_) | ((with_reducible refine opsd_nil ?_); refine And.intro (by kernel_rfl) ?_) | with_reducible refine callV_snap ?_ | ((with_reducible refine call_go inBS inB_ok ?_); refine ⟨alk, _, _, inB_at (by first | exact decide_eq_true (by omega) | exact decide_eq_false (by omega)), ?_⟩) | ((with_reducible refine call_go usesS uses_ok ?_); refine ⟨alk, _, _, uses_at (by omega) (by omega) (by first | (refine Eq.trans (b := true) ?_ rfl; decide +kernel) | (refine Eq.trans (b := false) ?_ rfl; decide +kernel)), ?_⟩) | ((with_reducible refine call_go lstTS lstT_ok ?_); refine ⟨alk, _, _, lstT_at _ (by first | (refine Eq.trans (b := 0) ?_ rfl; decide) | (refine Eq.trans (b := 1) ?_ rfl; decide)), ?_⟩) | with_reducible refine And.intro (fun h => ?_) (fun h => ?_) | with_reducible refine And.intro (by omega) ?_); (try simp only [go_sem, seval, reduceCtorEq, lv91MdDB, Tryz.ntmps91, Tryz.results91, rnBS])) | fail)
    all_goals first | (exfalso; omega) | (simp [rngB, fitO, mxT]; omega) | (simp [rngB, fitO, mxT]; done) | trace_state
end Go.Proofs.YtpocnjliigjidaaGreat
namespace Go.Proofs.YtpocnjliigjidaaGreat
open Go.RowKit
set_option maxRecDepth 100000
set_option linter.unusedSimpArgs false
set_option linter.unusedVariables false
abbrev lv91MdDC : List (Nat × List Nat) := [(0, [1]), (1, [1, 3]), (2, [1, 3, 6]), (3, [2]), (4, [1, 3, 11]), (5, [2]), (6, [1, 3, 28]), (7, [2]), (8, [1, 3, 37]), (9, [2]), (10, [1, 3, 46]), (11, [2]), (12, [1, 3, 62]), (13, [2]), (14, [2])]
set_option maxHeartbeats 8000000 in
theorem rnC_ok : Ok Tryz.prog 91 rnCS := by
  refine fn_ok rnCS Tryz.func91 rfl rfl ?_
  rintro args ins res outs ⟨⟨K, p, o, g, w, t, v⟩, h1, h2, rfl, rfl, rfl, rfl⟩
  refine ⟨by simp [Tryz.ntmps91], fun w0 V Bo mu0 => ?_⟩
  dsimp only at h1 h2
  rcases (show K = 9 ∨ K = 10 ∨ K = 11 by omega) with rfl | rfl | rfl
  · rcases (show ((1 ≤ p ∧ p ≤ 8) ∧ 1 ≤ t ∧ t ≤ 1099511627776) ∨ (¬ (1 ≤ p ∧ p ≤ 8)) ∨ ((1 ≤ p ∧ p ≤ 8) ∧ ¬ (1 ≤ t)) ∨ ((1 ≤ p ∧ p ≤ 8) ∧ 1 ≤ t ∧ ¬ (t ≤ 1099511627776)) by omega) with h | h | h | h
    all_goals
      repeat' (first | refine sA ?_ | with_reducible refine W_tf rfl (fun h => ?_) (fun h => ?_) | ((with_reducible first | refine hK _ ?_ | refine hK _ _ ?_); clear hK K) | ((first | refine sB ?_ | (with_reducible first | refine ops_cons (fun K hK => ?_) | refine opsd_cons (fun K hK => ?_) | refine W_reg lv91MdDC ?_ | refine W_drw lv91MdDC (by kernel_rfl) ?_) | ((with_reducible refine opsd_nil ?_); refine And.intro (by kernel_rfl) ?_) | with_reducible refine callV_snap ?_ | ((with_reducible refine call_go inBS inB_ok ?_); refine ⟨alk, _, _, inB_at (by first | exact decide_eq_true (by omega) | exact decide_eq_false (by omega)), ?_⟩) | ((with_reducible refine call_go usesS uses_ok ?_); refine ⟨alk, _, _, uses_at (by omega) (by omega) (by first | (refine Eq.trans (b := true) ?_ rfl; decide +kernel) | (refine Eq.trans (b := false) ?_ rfl; decide +kernel)), ?_⟩) | ((with_reducible refine call_go lstTS lstT_ok ?_); refine ⟨alk, _, _, lstT_at _ (by first | (refine Eq.trans (b := 0) ?_ rfl; decide) | (refine Eq.trans (b := 1) ?_ rfl; decide)), ?_⟩) | with_reducible refine And.intro (fun h => ?_) (fun h => ?_) | with_reducible refine And.intro (by omega) ?_); (try simp only [go_sem, seval, reduceCtorEq, lv91MdDC, Tryz.ntmps91, Tryz.results91, rnCS])) | fail)
    all_goals first | (exfalso; omega) | (simp [rngB, fitO, mxT]; omega) | (simp [rngB, fitO, mxT]; done) | trace_state
  · rcases (show ((1 ≤ p ∧ p ≤ 8) ∧ t ≤ 1099511627776) ∨ (¬ (1 ≤ p ∧ p ≤ 8)) ∨ ((1 ≤ p ∧ p ≤ 8) ∧ ¬ (t ≤ 1099511627776)) by omega) with h | h | h
    all_goals
      repeat' (first | refine sA ?_ | with_reducible refine W_tf rfl (fun h => ?_) (fun h => ?_) | ((with_reducible first | refine hK _ ?_ | refine hK _ _ ?_); clear hK K) | ((first | refine sB ?_ | (with_reducible first | refine ops_cons (fun K hK => ?_) | refine opsd_cons (fun K hK => ?_) | refine W_reg lv91MdDC ?_ | refine W_drw lv91MdDC (by kernel_rfl) ?_) | ((with_reducible refine opsd_nil ?_); refine And.intro (by kernel_rfl) ?_) | with_reducible refine callV_snap ?_ | ((with_reducible refine call_go inBS inB_ok ?_); refine ⟨alk, _, _, inB_at (by first | exact decide_eq_true (by omega) | exact decide_eq_false (by omega)), ?_⟩) | ((with_reducible refine call_go usesS uses_ok ?_); refine ⟨alk, _, _, uses_at (by omega) (by omega) (by first | (refine Eq.trans (b := true) ?_ rfl; decide +kernel) | (refine Eq.trans (b := false) ?_ rfl; decide +kernel)), ?_⟩) | ((with_reducible refine call_go lstTS lstT_ok ?_); refine ⟨alk, _, _, lstT_at _ (by first | (refine Eq.trans (b := 0) ?_ rfl; decide) | (refine Eq.trans (b := 1) ?_ rfl; decide)), ?_⟩) | with_reducible refine And.intro (fun h => ?_) (fun h => ?_) | with_reducible refine And.intro (by omega) ?_); (try simp only [go_sem, seval, reduceCtorEq, lv91MdDC, Tryz.ntmps91, Tryz.results91, rnCS])) | fail)
    all_goals first | (exfalso; omega) | (simp [rngB, fitO, mxT]; omega) | (simp [rngB, fitO, mxT]; done) | trace_state
  · rcases (show ((1 ≤ p ∧ p ≤ 8) ∧ 1 ≤ t ∧ t ≤ 1099511627776 ∧ 1 ≤ v ∧ v ≤ 17) ∨ (¬ (1 ≤ p ∧ p ≤ 8)) ∨ ((1 ≤ p ∧ p ≤ 8) ∧ ¬ (1 ≤ t)) ∨ ((1 ≤ p ∧ p ≤ 8) ∧ 1 ≤ t ∧ ¬ (t ≤ 1099511627776)) ∨ ((1 ≤ p ∧ p ≤ 8) ∧ 1 ≤ t ∧ t ≤ 1099511627776 ∧ ¬ (1 ≤ v)) ∨ ((1 ≤ p ∧ p ≤ 8) ∧ 1 ≤ t ∧ t ≤ 1099511627776 ∧ 1 ≤ v ∧ ¬ (v ≤ 17)) by omega) with h | h | h | h | h | h
    all_goals
      repeat' (first | refine sA ?_ | with_reducible refine W_tf rfl (fun h => ?_) (fun h => ?_) | ((with_reducible first | refine hK _ ?_ | refine hK _ _ ?_); clear hK K) | ((first | refine sB ?_ | (with_reducible first | refine ops_cons (fun K hK => ?_) | refine opsd_cons (fun K hK => ?_) | refine W_reg lv91MdDC ?_ | refine W_drw lv91MdDC (by kernel_rfl) ?_) | ((with_reducible refine opsd_nil ?_); refine And.intro (by kernel_rfl) ?_) | with_reducible refine callV_snap ?_ | ((with_reducible refine call_go inBS inB_ok ?_); refine ⟨alk, _, _, inB_at (by first | exact decide_eq_true (by omega) | exact decide_eq_false (by omega)), ?_⟩) | ((with_reducible refine call_go usesS uses_ok ?_); refine ⟨alk, _, _, uses_at (by omega) (by omega) (by first | (refine Eq.trans (b := true) ?_ rfl; decide +kernel) | (refine Eq.trans (b := false) ?_ rfl; decide +kernel)), ?_⟩) | ((with_reducible refine call_go lstTS lstT_ok ?_); refine ⟨alk, _, _, lstT_at _ (by first | (refine Eq.trans (b := 0) ?_ rfl; decide) | (refine Eq.trans (b := 1) ?_ rfl; decide)), ?_⟩) | with_reducible refine And.intro (fun h => ?_) (fun h => ?_) | with_reducible refine And.intro (by omega) ?_); (try simp only [go_sem, seval, reduceCtorEq, lv91MdDC, Tryz.ntmps91, Tryz.results91, rnCS])) | fail)
    all_goals first | (exfalso; omega) | (simp [rngB, fitO, mxT]; omega) | (simp [rngB, fitO, mxT]; done) | trace_state
end Go.Proofs.YtpocnjliigjidaaGreat
namespace Go.Proofs.YtpocnjliigjidaaGreat
open Go.RowKit
set_option maxRecDepth 100000
set_option linter.unusedSimpArgs false
set_option linter.unusedVariables false
abbrev lv92MdDE : List (Nat × List Nat) := [(0, [1]), (1, [1, 3]), (2, [1, 3, 4]), (3, [1, 3, 4, 5]), (4, [2])]
def unuOS : Spec := { rel := fun args ins res outs => ∃ x : Oc, 1 ≤ x.k ∧ x.k ≤ 11 ∧ args = [ocA x] ∧ ins = [] ∧ res = bv (unuO x) ∧ outs = [] }
theorem unuO_at (x : Oc) (h1 : 1 ≤ x.k) (h2 : x.k ≤ 11) {b : Bool} (h : unuO x = b) : unuOS.rel [ocA x] [] (bv b) [] := ⟨x, h1, h2, rfl, rfl, by rw [h], rfl⟩
set_option maxHeartbeats 8000000 in
theorem unuO_ok : Ok Tryz.prog 92 unuOS := by
  refine fn_ok unuOS Tryz.func92 rfl rfl ?_
  rintro args ins res outs ⟨⟨K, p, o, g, w, t, v⟩, h1, h2, rfl, rfl, rfl, rfl⟩
  refine ⟨by simp [Tryz.ntmps92], fun w0 V Bo mu0 => ?_⟩
  dsimp only at h1 h2
  rcases (show K = 1 ∨ K = 2 ∨ K = 3 ∨ K = 4 ∨ K = 5 ∨ K = 6 ∨ K = 7 ∨ K = 8 ∨ K = 9 ∨ K = 10 ∨ K = 11 by omega) with rfl | rfl | rfl | rfl | rfl | rfl | rfl | rfl | rfl | rfl | rfl
  all_goals
    repeat' (first | refine sA ?_ | ((with_reducible first | refine hK _ ?_ | refine hK _ _ ?_); clear hK K) | ((first | refine sB ?_ | (with_reducible first | refine ops_cons (fun K hK => ?_) | refine W_reg lv92MdDE ?_) | with_reducible refine callV_snap ?_ | ((with_reducible refine call_go usesS uses_ok ?_); refine ⟨alk, _, _, uses_at (by omega) (by omega) (by first | (refine Eq.trans (b := true) ?_ rfl; decide +kernel) | (refine Eq.trans (b := false) ?_ rfl; decide +kernel)), ?_⟩) | with_reducible refine And.intro (fun h => ?_) (fun h => ?_) | with_reducible refine And.intro (by omega) ?_); (try simp only [go_sem, seval, reduceCtorEq, lv92MdDE, Tryz.ntmps92, Tryz.results92, unuOS])) | fail)
  all_goals first | (exfalso; omega) | (simp [unuO]; omega) | (simp [unuO]; done) | (simp [unuO, *]; done) | trace_state
end Go.Proofs.YtpocnjliigjidaaGreat
namespace Go.Proofs.YtpocnjliigjidaaGreat
open Go.RowKit
set_option maxRecDepth 100000
set_option linter.unusedSimpArgs false
set_option linter.unusedVariables false
abbrev lv33MdDD : List (Nat × List Nat) := [(0, [0]), (1, [0, 8]), (2, [2, 3]), (3, [0, 4]), (4, [0, 4, 12]), (5, [0, 4]), (6, [0, 4, 5]), (7, [0, 4, 5, 21]), (8, [2, 3]), (9, [2, 3])]
abbrev lv55MdDD : List (Nat × List Nat) := [(0, [1]), (1, [1, 3]), (2, [2]), (3, [1, 8]), (4, [2]), (5, [12]), (6, [2]), (7, [2])]
theorem rngO_ok : Ok Tryz.prog 91 rngOS := by
  refine ⟨rnA_ok.1, fun args ins res outs hr => ?_⟩
  obtain ⟨x, h1, h2, g1, g2, g3, g4⟩ := hr
  have hm : x.k ≤ 4 ∨ (5 ≤ x.k ∧ x.k ≤ 8) ∨ 9 ≤ x.k := by omega
  rcases hm with h | h | h
  · exact rnA_ok.2 _ _ _ _ ⟨x, h1, h, g1, g2, g3, g4⟩
  · exact rnB_ok.2 _ _ _ _ ⟨x, h.1, h.2, g1, g2, g3, g4⟩
  · exact rnC_ok.2 _ _ _ _ ⟨x, h, h2, g1, g2, g3, g4⟩
def oneOS : Spec := { rel := fun args ins res outs => ∃ x : Oc, args = [ocA x] ∧ ins = [] ∧ res = iv (ocE x) ∧ outs = [] }
theorem oneO_at (x : Oc) {e : Int} (h : ocE x = e) : oneOS.rel [ocA x] [] (iv e) [] := ⟨x, rfl, rfl, by rw [h], rfl⟩
set_option maxHeartbeats 2000000 in
theorem oneO_ok : Ok Tryz.prog 55 oneOS := by
  refine fn_ok oneOS Tryz.func55 rfl rfl ?_
  rintro args ins res outs ⟨x, rfl, rfl, rfl, rfl⟩
  refine ⟨by simp [Tryz.ntmps55], fun w0 V Bo mu0 => ?_⟩
  have us := Tryz.underlying9
  by_cases hk : x.k < 1 ∨ 11 < x.k
  · rw [show ocE x = 16 from if_pos hk]
    have nmR_at := nmR_at x.k (nmN_nil hk)
    have hee : ((sY []).toList == (ByteArray.mk #[]).toList) = true := by rw [sB_toList]; decide
    repeat' (first | refine sA ?_ | with_reducible refine W_tf rfl (fun h => ?_) (fun h => ?_) | ((with_reducible first | refine hK _ ?_ | refine hK _ _ ?_); clear hK K) | ((first | refine sB ?_ | (with_reducible first | refine ops_cons (fun K hK => ?_) | refine W_reg lv55MdDD ?_) | with_reducible refine callV_snap ?_ | ((with_reducible refine call_go nmRS nmR_ok ?_); refine ⟨alk, _, _, nmR_at , ?_⟩) | with_reducible refine And.intro (fun h => ?_) (fun h => ?_) | with_reducible refine And.intro (by omega) ?_); (try simp only [go_sem, seval, reduceCtorEq, us, hee, lv55MdDD, Tryz.ntmps55, Tryz.results55, oneOS])) | fail)
    all_goals trace_state
  have hne := nmN_ne hk
  have nmR_at := nmR_at x.k rfl
  generalize nmN x.k = nm at *
  obtain ⟨e1, e2, e3, e4, e5⟩ := ocE_of hk
  have R0 := rngO_at x (by omega) (by omega) rfl
  have U0 := unuO_at x (by omega) (by omega) rfl
  cases hr : rngB x with
  | false =>
    have hE : ocE x = 2 := by
      unfold rngB at hr
      by_cases h1 : x.p < 1
      · exact e1 h1
      · by_cases h2 : 8 < x.p
        · exact e2 h2
        · rw [decide_eq_true (by omega)] at hr
          exact e3 (by simpa using hr)
    rw [hE]
    rw [hr] at R0
    have rngO_at : rngOS.rel [ocA x] [] (bv false) [] := R0
    repeat' (first | refine sA ?_ | with_reducible refine W_tf rfl (fun h => ?_) (fun h => ?_) | ((with_reducible first | refine hK _ ?_ | refine hK _ _ ?_); clear hK K) | ((first | refine sB ?_ | (with_reducible first | refine ops_cons (fun K hK => ?_) | refine W_reg lv55MdDD ?_) | with_reducible refine callV_snap ?_ | ((with_reducible refine call_go nmRS nmR_ok ?_); refine ⟨alk, _, _, nmR_at , ?_⟩) | ((with_reducible refine call_go rngOS rngO_ok ?_); refine ⟨alk, _, _, rngO_at , ?_⟩) | with_reducible refine And.intro (fun h => ?_) (fun h => ?_) | with_reducible refine And.intro (by omega) ?_); (try simp only [go_sem, seval, reduceCtorEq, us, hne, lv55MdDD, Tryz.ntmps55, Tryz.results55, oneOS])) | fail)
    all_goals trace_state
  | true =>
    rw [hr] at R0
    have rngO_at : rngOS.rel [ocA x] [] (bv true) [] := R0
    unfold rngB at hr
    rw [Bool.and_eq_true, decide_eq_true_eq] at hr
    cases hu : unuO x with
    | false =>
      rw [e4 (by omega) (by omega) hr.2 hu]
      rw [hu] at U0
      have unuO_at : unuOS.rel [ocA x] [] (bv false) [] := U0
      repeat' (first | refine sA ?_ | with_reducible refine W_tf rfl (fun h => ?_) (fun h => ?_) | ((with_reducible first | refine hK _ ?_ | refine hK _ _ ?_); clear hK K) | ((first | refine sB ?_ | (with_reducible first | refine ops_cons (fun K hK => ?_) | refine W_reg lv55MdDD ?_) | with_reducible refine callV_snap ?_ | ((with_reducible refine call_go nmRS nmR_ok ?_); refine ⟨alk, _, _, nmR_at , ?_⟩) | ((with_reducible refine call_go rngOS rngO_ok ?_); refine ⟨alk, _, _, rngO_at , ?_⟩) | ((with_reducible refine call_go unuOS unuO_ok ?_); refine ⟨alk, _, _, unuO_at , ?_⟩) | with_reducible refine And.intro (fun h => ?_) (fun h => ?_) | with_reducible refine And.intro (by omega) ?_); (try simp only [go_sem, seval, reduceCtorEq, us, hne, lv55MdDD, Tryz.ntmps55, Tryz.results55, oneOS])) | fail)
      all_goals trace_state
    | true =>
      rw [e5 (by omega) (by omega) hr.2 hu]
      rw [hu] at U0
      have unuO_at : unuOS.rel [ocA x] [] (bv true) [] := U0
      repeat' (first | refine sA ?_ | with_reducible refine W_tf rfl (fun h => ?_) (fun h => ?_) | ((with_reducible first | refine hK _ ?_ | refine hK _ _ ?_); clear hK K) | ((first | refine sB ?_ | (with_reducible first | refine ops_cons (fun K hK => ?_) | refine W_reg lv55MdDD ?_) | with_reducible refine callV_snap ?_ | ((with_reducible refine call_go nmRS nmR_ok ?_); refine ⟨alk, _, _, nmR_at , ?_⟩) | ((with_reducible refine call_go rngOS rngO_ok ?_); refine ⟨alk, _, _, rngO_at , ?_⟩) | ((with_reducible refine call_go unuOS unuO_ok ?_); refine ⟨alk, _, _, unuO_at , ?_⟩) | with_reducible refine And.intro (fun h => ?_) (fun h => ?_) | with_reducible refine And.intro (by omega) ?_); (try simp only [go_sem, seval, reduceCtorEq, us, hne, lv55MdDD, Tryz.ntmps55, Tryz.results55, oneOS])) | fail)
      all_goals trace_state
abbrev rTrkS : Spec := TrkS
theorem rTrk_at (l : List Oc) (h : l.length ≤ 1000000) {e : Int} {i : Nat} (he : trE l = (e, i)) : rTrkS.rel [ocL l] [] (.tup [iv e, iv (i : Int)]) [] := Trk_at l h he
theorem rTrk_ok : Ok Tryz.prog 33 rTrkS := by
  refine fn_ok TrkS Tryz.func33 rfl rfl ?_
  rintro args ins res outs ⟨l, hl, rfl, rfl, rfl, rfl⟩
  refine ⟨by simp [Tryz.ntmps33], fun w0 V Bo mu0 => ?_⟩
  unfold trE
  by_cases h5 : 5000 < (l.length : Int)
  · rw [if_pos (by omega)]
    repeat' (first | refine sA ?_ | with_reducible refine W_tf rfl (fun h => ?_) (fun h => ?_) | ((with_reducible first | refine hK _ ?_ | refine hK _ _ ?_); clear hK K) | ((first | refine sB ?_ | (with_reducible first | refine ops_cons (fun K hK => ?_) | refine W_reg lv33MdDD ?_) | with_reducible refine callV_snap ?_ | with_reducible refine And.intro (fun h => ?_) (fun h => ?_) | with_reducible refine And.intro (by omega) ?_); (try simp only [go_sem, seval, reduceCtorEq, h5, lv33MdDD, Tryz.ntmps33, Tryz.results33, TrkS])) | fail)
  rw [if_neg (by omega)]
  repeat' (first | refine sA ?_ | with_reducible refine W_tf rfl (fun h => ?_) (fun h => ?_) | ((with_reducible first | refine hK _ ?_ | refine hK _ _ ?_); clear hK K) | ((first | refine sB ?_ | (with_reducible first | refine ops_cons (fun K hK => ?_) | refine W_reg lv33MdDD ?_) | with_reducible refine callV_snap ?_ | with_reducible refine And.intro (fun h => ?_) (fun h => ?_) | with_reducible refine And.intro (by omega) ?_); (try simp only [go_sem, seval, reduceCtorEq, h5, lv33MdDD, Tryz.ntmps33, Tryz.results33, TrkS])) | fail)
  refine W_loop (fun i : Nat => ⟨[(0, ocL l), (4, iv (i : Int))], []⟩) (fun i => i ≤ l.length ∧ trF i (l.drop i) = trF 0 l) (fun i => l.length - i) 0 ⟨Nat.zero_le _, rfl⟩ [] ?_ ?_
  · simp [go_sem]
  rintro i ⟨hi, hT⟩
  by_cases hlt : i < l.length
  · have hki : (i : Int) < l.length := by omega
    rw [trF_at hlt] at hT
    obtain ⟨x, hx⟩ : ∃ x, l[i] = x := ⟨_, rfl⟩
    have e0 : encOc l[i] = [.int .i64 x.k, .int .i64 x.p, .int .i64 x.o, .int .i64 x.g, .int .i64 x.w, .int .u64 (x.t : Int), .int .u64 (x.v : Int)] := by rw [hx]; rfl
    rw [hx] at hT
    have C0 := oneO_at x rfl
    by_cases he : ocE x = 0
    · rw [if_pos he] at hT
      rw [he] at C0
      have oneO_at : oneOS.rel [ocA x] [] (iv 0) [] := C0
      repeat' (first | refine sA ?_ | with_reducible refine W_tf rfl (fun h => ?_) (fun h => ?_) | ((with_reducible first | refine hK _ ?_ | refine hK _ _ ?_); clear hK K) | ((first | refine sB ?_ | (with_reducible first | refine ops_cons (fun K hK => ?_) | refine W_reg lv33MdDD ?_) | with_reducible refine callV_snap ?_ | ((with_reducible refine call_go oneOS oneO_ok ?_); refine ⟨alk, _, _, oneO_at , ?_⟩) | with_reducible refine And.intro (fun h => ?_) (fun h => ?_) | with_reducible refine And.intro (by omega) ?_); (try simp only [go_sem, seval, reduceCtorEq, hki, e0, lv33MdDD, Tryz.ntmps33, Tryz.results33, TrkS])) | fail)
      refine ⟨i + 1, [], ⟨by omega, hT⟩, by omega, ?_⟩
      simp [go_sem]
    · rw [if_neg he] at hT
      rw [← hT]
      generalize ocE x = e at *
      have oneO_at : oneOS.rel [ocA x] [] (iv e) [] := C0
      repeat' (first | refine sA ?_ | with_reducible refine W_tf rfl (fun h => ?_) (fun h => ?_) | ((with_reducible first | refine hK _ ?_ | refine hK _ _ ?_); clear hK K) | ((first | refine sB ?_ | (with_reducible first | refine ops_cons (fun K hK => ?_) | refine W_reg lv33MdDD ?_) | with_reducible refine callV_snap ?_ | ((with_reducible refine call_go oneOS oneO_ok ?_); refine ⟨alk, _, _, oneO_at , ?_⟩) | with_reducible refine And.intro (fun h => ?_) (fun h => ?_) | with_reducible refine And.intro (by omega) ?_); (try simp only [go_sem, seval, reduceCtorEq, hki, e0, he, lv33MdDD, Tryz.ntmps33, Tryz.results33, TrkS])) | fail)
  · have hki : ¬ (i : Int) < l.length := by omega
    obtain rfl : i = l.length := by omega
    rw [List.drop_length, trF] at hT
    rw [← hT]
    repeat' (first | refine sA ?_ | with_reducible refine W_tf rfl (fun h => ?_) (fun h => ?_) | ((with_reducible first | refine hK _ ?_ | refine hK _ _ ?_); clear hK K) | ((first | refine sB ?_ | (with_reducible first | refine ops_cons (fun K hK => ?_) | refine W_reg lv33MdDD ?_) | with_reducible refine callV_snap ?_ | with_reducible refine And.intro (fun h => ?_) (fun h => ?_) | with_reducible refine And.intro (by omega) ?_); (try simp only [go_sem, seval, reduceCtorEq, hki, lv33MdDD, Tryz.ntmps33, Tryz.results33, TrkS])) | fail)
end Go.Proofs.YtpocnjliigjidaaGreat
namespace Go.Proofs.YtpocnjliigjidaaGreat
open Go.RowKit
set_option maxRecDepth 100000
set_option linter.unusedSimpArgs false
set_option linter.unusedVariables false
theorem rPg_at (al : List Bool) (mp : List Nat) (cs : List Cl) (p g : Int) (h : U64 mp) (h1 : al.length ≤ 1000000) (h2 : mp.length ≤ 1000000) (h3 : cs.length ≤ 1000000) : rPgS.rel [fm al mp cs, iv p, iv g] [] (.tup [.agg (ctA (pcO al mp cs p g)), iv (mapE al mp cs p g 0)]) [] := ⟨al, mp, cs, p, g, h, h1, h2, h3, rfl, rfl, rfl, rfl⟩
end Go.Proofs.YtpocnjliigjidaaGreat
