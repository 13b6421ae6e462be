/- ModelSteps, by the engine. -/
import Derived.Test.YtnclclpfmldocaaGreatMdM
namespace Go.Proofs.YtnclclpfmldocaaGreat
open Go.RowKit
set_option maxRecDepth 100000
set_option linter.unusedSimpArgs false
set_option linter.unusedVariables false

abbrev lv6MdT1 : List (Nat × List Nat) := [(0, [0]), (1, [3, 4, 5]), (2, [3, 4, 5, 6, 7]), (3, [3, 4, 5, 6, 7, 8, 9]), (4, [2])]
def stpsS : Spec := { al := true, rel := fun args ins res outs => ∃ l : List Int, args = [dI l] ∧ ins = [] ∧ res = bv true ∧ outs = [] }
set_option maxHeartbeats 2000000 in
theorem stps_ok : Ok Tryz.prog 6 stpsS := by
  refine fn_ok stpsS Tryz.func6 rfl rfl ?_
  rintro args ins res outs ⟨l, rfl, rfl, rfl, rfl⟩
  refine ⟨by simp [Tryz.ntmps6], fun w0 V Bo mu0 => ?_⟩
  have M0 := madeF_at l 60 0 true (by decide) (by decide)
  obtain ⟨hM, hMl, _⟩ := mk_mad 0 true (l.take 60)
  have h60 : (madO 0 true (l.take 60)).1.length ≤ 60 := by rw [List.length_take] at hMl; omega
  obtain ⟨t1, t2, t3, t4⟩ := mk_tell hM (by omega)
  obtain ⟨v1, v2, v3, v4, v5, v6⟩ := vs_len hM.v
  generalize madO 0 true (l.take 60) = a at *
  have A0 := aftr_at a.1 (by omega)
  rw [t3, t4] at A0
  have madeF_at : madeFS.rel [dI l, iv 60, iv 0, bv true] [] (.tup [ocL a.1, syA a.2, bv true]) [] := M0
  have aftr_at : aftrS.rel [ocL a.1] [] (.tup [syA a.2, iv 0]) [] := A0
  have alw_at : alwS.rel [ocL a.1] [] (.tup [iv (a.1.length : Int), iv 0]) [] := alw_at a.1 (by omega) t2 (by rw [t1])
  have sam_at := sam_at a.2 v2 v3 v4 v5
  repeat' (first
    | (with_reducible first | refine W_seq ?_ | refine endQ_ret ?_ | refine endQ_normal ?_)
    | ((with_reducible first | refine hK _ ?_ | refine hK _ _ ?_); clear hK K)
    | ((first | (with_reducible first | refine ops_cons (fun K hK => ?_) | refine ops_nil ?_) | with_reducible refine callV_snap ?_ | ((with_reducible refine call_go madeFS madeF_ok ?_); refine ⟨(by first | exact alOk_nil _ | exact alOk_f rfl), _, _, madeF_at , ?_⟩) | ((with_reducible refine call_go aftrS aftr_ok ?_); refine ⟨(by first | exact alOk_nil _ | exact alOk_f rfl), _, _, aftr_at , ?_⟩) | ((with_reducible refine call_go alwS alw_ok ?_); refine ⟨(by first | exact alOk_nil _ | exact alOk_f rfl), _, _, alw_at , ?_⟩) | ((with_reducible refine call_go samS sam_ok ?_); refine ⟨(by first | exact alOk_nil _ | exact alOk_f rfl), _, _, sam_at , ?_⟩) | ((with_reducible refine call_go awkS awk_ok ?_); refine ⟨(by first | exact alOk_nil _ | exact alOk_f rfl), _, _, awk_at , ?_⟩) | (with_reducible first | refine W_reg lv6MdT1 ?_ | refine W_ret ?_ | refine end_at0 ?_) | (with_reducible refine And.intro (fun h => ?_) (fun h => ?_)) | (with_reducible refine And.intro (by omega) ?_)); (try simp only [go_sem, seval, reduceCtorEq, lv6MdT1, Tryz.ntmps6, Tryz.results6, stpsS]))
    | fail)
end Go.Proofs.YtnclclpfmldocaaGreat
