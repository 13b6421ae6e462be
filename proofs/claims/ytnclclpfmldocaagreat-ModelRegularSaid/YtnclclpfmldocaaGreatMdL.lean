/- Traces that are known: first, allows, awake; who lives behind a trace; ModelKnown. -/
import Derived.Test.YtnclclpfmldocaaGreatMdI
namespace Go.Proofs.YtnclclpfmldocaaGreat
open Go.RowKit
set_option maxRecDepth 100000
set_option linter.unusedSimpArgs false
set_option linter.unusedVariables false

theorem encOce : Enc encOc 7 := ⟨fun _ => rfl, fun x d hd => by simp only [encOc, List.mem_cons, List.not_mem_nil, or_false] at hd; rcases hd with rfl | rfl | rfl | rfl | rfl | rfl | rfl <;> rfl⟩
def w4 : List Oc := [⟨9, 1, 0, 0, 0, 1, 0⟩, ⟨6, 1, 0, 0, 0, 1, 0⟩, ⟨1, 1, 7, 3, 0, 0, 0⟩, ⟨3, 1, 0, 3, 0, 0, 0⟩]
def firS : Spec := { rel := fun args ins res outs => ∃ l : List Oc, l.length ≤ 1000 ∧ args = [ocL l] ∧ ins = [] ∧ res = .row 0 7 0 (w4 ++ l).length ∧ outs = [.rows 36 7 ((w4 ++ l).map encOc)] }
set_option maxHeartbeats 1000000 in
theorem fir_ok : Ok Tryz.prog 27 firS := by
  refine fn_ok firS Tryz.func27 rfl rfl ?_
  rintro args ins res outs ⟨l, hl, rfl, rfl, rfl, rfl⟩
  refine ⟨by simp [Tryz.ntmps27], fun w0 V Bo mu0 => ?_⟩
  repeat' (first
    | (with_reducible first | refine W_seq ?_ | refine endQ_ret ?_ | refine endQ_normal ?_)
    | ((with_reducible first | refine hK _ ?_ | refine hK _ _ ?_); clear hK K)
    | ((with_reducible refine And.intro (encOce.rows _) ?_))
    | ((first | (with_reducible first | refine ops_cons (fun K hK => ?_) | refine ops_nil ?_) | with_reducible refine callV_snap ?_ | (with_reducible first | refine slice_old ?_ | refine app_grow ?_ | refine W_reg [(0, [0]), (1, [0, 3]), (2, [2])] ?_ | refine end_at0 ?_) | (with_reducible refine And.intro (fun h => ?_) (fun h => ?_)) | (with_reducible refine And.intro (by omega) ?_)); (try simp only [go_sem, seval, reduceCtorEq, Tryz.ntmps27, Tryz.results27, firS]))
    | fail)
  refine W_ret (endQ_ret (end_at [1] ?_))
  have := encOce.flat l
  have e4 : 4 + l.length = (w4 ++ l).length := by simp [w4]; omega
  simp [go_sem, Tryz.results27, firS, w4, encOc]
  all_goals omega
theorem fir_at (l L : List Oc) (h : l.length ≤ 1000) (hL : w4 ++ l = L) : firS.rel [ocL l] [] (.row 0 7 0 L.length) [.rows 36 7 (L.map encOc)] := ⟨l, h, rfl, rfl, by rw [hL], by rw [hL]⟩
def allS : Spec := { rel := fun args ins res outs => ∃ (n : Int) (l : List Oc), l.length ≤ 1000000 ∧ args = [iv n, ocL l] ∧ ins = [] ∧ res = bv (decide ((tlN l : Int) = n ∧ (trE l).1 = 0)) ∧ outs = [] }
theorem all_at (n : Nat) (l : List Oc) (h : l.length ≤ 1000000) (h1 : tlN l = n) (h2 : (trE l).1 = 0) : allS.rel [iv (n : Int), ocL l] [] (bv true) [] := ⟨(n : Int), l, h, rfl, rfl, by rw [h1, h2, decide_eq_true (⟨rfl, rfl⟩ : (n : Int) = (n : Int) ∧ (0 : Int) = 0)], rfl⟩
theorem all_ok : Ok Tryz.prog 15 allS := by
  refine fn_ok allS Tryz.func15 rfl rfl ?_
  rintro args ins res outs ⟨n, l, hl, rfl, rfl, rfl, rfl⟩
  refine ⟨by simp [Tryz.ntmps15], fun w0 V Bo mu0 => ?_⟩
  have A0 := alw_at l hl (n := tlN l) (e := (trE l).1) rfl rfl
  generalize tlN l = N at *
  generalize (trE l).1 = E at *
  have alw_at : alwS.rel [ocL l] [] (.tup [iv (N : Int), iv E]) [] := A0
  by_cases h1 : (N : Int) = n
  · by_cases h2 : E = 0
    · rw [decide_eq_true ⟨h1, h2⟩]
      repeat' (first
        | (with_reducible first | refine W_seq ?_ | refine endQ_ret ?_ | refine endQ_normal ?_)
        | ((with_reducible first | refine hK _ ?_ | refine hK _ _ ?_); clear hK K)
        | ((first | (with_reducible first | refine ops_cons (fun K hK => ?_) | refine ops_nil ?_) | with_reducible refine callV_snap ?_ | ((with_reducible refine call_go alwS alw_ok ?_); refine ⟨(by first | exact alOk_nil _ | exact alOk_f rfl), _, _, alw_at , ?_⟩) | (with_reducible first | refine W_reg [(0, [0, 1]), (1, [0, 5, 6]), (2, [4])] ?_ | refine W_ret ?_ | refine end_at0 ?_) | (with_reducible refine And.intro (fun h => ?_) (fun h => ?_)) | (with_reducible refine And.intro (by omega) ?_)); (try simp only [go_sem, seval, reduceCtorEq, h1, h2, Tryz.ntmps15, Tryz.results15, allS]))
        | fail)
    · rw [decide_eq_false (fun h => h2 h.2)]
      repeat' (first
        | (with_reducible first | refine W_seq ?_ | refine endQ_ret ?_ | refine endQ_normal ?_)
        | ((with_reducible first | refine hK _ ?_ | refine hK _ _ ?_); clear hK K)
        | ((first | (with_reducible first | refine ops_cons (fun K hK => ?_) | refine ops_nil ?_) | with_reducible refine callV_snap ?_ | ((with_reducible refine call_go alwS alw_ok ?_); refine ⟨(by first | exact alOk_nil _ | exact alOk_f rfl), _, _, alw_at , ?_⟩) | (with_reducible first | refine W_reg [(0, [0, 1]), (1, [0, 5, 6]), (2, [4])] ?_ | refine W_ret ?_ | refine end_at0 ?_) | (with_reducible refine And.intro (fun h => ?_) (fun h => ?_)) | (with_reducible refine And.intro (by omega) ?_)); (try simp only [go_sem, seval, reduceCtorEq, h1, h2, Tryz.ntmps15, Tryz.results15, allS]))
        | fail)
  · rw [decide_eq_false (fun h => h1 h.1)]
    repeat' (first
      | (with_reducible first | refine W_seq ?_ | refine endQ_ret ?_ | refine endQ_normal ?_)
      | ((with_reducible first | refine hK _ ?_ | refine hK _ _ ?_); clear hK K)
      | ((first | (with_reducible first | refine ops_cons (fun K hK => ?_) | refine ops_nil ?_) | with_reducible refine callV_snap ?_ | ((with_reducible refine call_go alwS alw_ok ?_); refine ⟨(by first | exact alOk_nil _ | exact alOk_f rfl), _, _, alw_at , ?_⟩) | (with_reducible first | refine W_reg [(0, [0, 1]), (1, [0, 5, 6]), (2, [4])] ?_ | refine W_ret ?_ | refine end_at0 ?_) | (with_reducible refine And.intro (fun h => ?_) (fun h => ?_)) | (with_reducible refine And.intro (by omega) ?_)); (try simp only [go_sem, seval, reduceCtorEq, h1, Tryz.ntmps15, Tryz.results15, allS]))
      | fail)
def aA : List Oc := [⟨6, 1, 0, 0, 0, 1, 0⟩]
def aB : List Oc := [⟨9, 1, 0, 0, 0, 5, 0⟩, ⟨1, 1, 8, 8, 0, 0, 0⟩]
theorem w4_n : tlN w4 = 4 := by decide +kernel
theorem w4_e : (trE w4).1 = 0 := by decide +kernel
theorem aA_n : tlN aA = 0 := by decide +kernel
theorem aA_e : (trE aA).1 = 0 := by decide +kernel
def aC : List Oc := w4 ++ aB
theorem aB_n : tlN aC = 5 := by decide +kernel
theorem aB_e : (trE aC).1 = 0 := by decide +kernel
def awkS : Spec := { rel := fun args ins res outs => args = [] ∧ ins = [] ∧ res = bv true ∧ outs = [] }
theorem awk_at : awkS.rel [] [] (bv true) [] := ⟨rfl, rfl, rfl, rfl⟩
set_option maxHeartbeats 1000000 in
theorem awk_ok : Ok Tryz.prog 12 awkS := by
  refine fn_ok awkS Tryz.func12 rfl rfl ?_
  rintro args ins res outs ⟨rfl, rfl, rfl, rfl⟩
  refine ⟨by simp [Tryz.ntmps12], fun w0 V Bo mu0 => ?_⟩
  repeat' (first
    | (with_reducible first | refine W_seq ?_ | refine endQ_ret ?_ | refine endQ_normal ?_)
    | ((with_reducible first | refine hK _ ?_ | refine hK _ _ ?_); clear hK K)
    | ((first | (with_reducible first | refine ops_cons (fun K hK => ?_) | refine ops_nil ?_) | with_reducible refine callV_snap ?_ | ((with_reducible refine call_go firS fir_ok ?_); refine ⟨(by first | exact alOk_nil _ | exact alOk_f rfl), _, _, fir_at [] w4 (by decide) rfl, ?_⟩) | ((with_reducible refine call_go firS fir_ok ?_); refine ⟨(by first | exact alOk_nil _ | exact alOk_f rfl), _, _, fir_at aB aC (by decide) rfl, ?_⟩) | ((with_reducible refine call_go allS all_ok ?_); refine ⟨(by first | exact alOk_nil _ | exact alOk_f rfl), _, _, all_at 4 w4 (by decide) w4_n w4_e, ?_⟩) | ((with_reducible refine call_go allS all_ok ?_); refine ⟨(by first | exact alOk_nil _ | exact alOk_f rfl), _, _, all_at 0 aA (by decide) aA_n aA_e, ?_⟩) | ((with_reducible refine call_go allS all_ok ?_); refine ⟨(by first | exact alOk_nil _ | exact alOk_f rfl), _, _, all_at 5 aC (by decide) aB_n aB_e, ?_⟩) | (with_reducible first | refine slice_old ?_ | refine W_reg [(0, []), (1, [0])] ?_ | refine W_ret ?_ | refine end_at0 ?_) | (with_reducible refine And.intro (fun h => ?_) (fun h => ?_)) | (with_reducible refine And.intro (by omega) ?_)); (try simp only [go_sem, seval, reduceCtorEq, Tryz.ntmps12, Tryz.results12, awkS]))
    | fail)
  all_goals trace_state
end Go.Proofs.YtnclclpfmldocaaGreat
