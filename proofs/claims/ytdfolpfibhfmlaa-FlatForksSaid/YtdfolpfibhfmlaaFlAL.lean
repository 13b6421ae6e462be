/- A flat memory: first, awake, light and FlatKnown, by the engine. -/
import Derived.Test.YtdfolpfibhfmlaaFlAK
namespace Go.Proofs.Ytdfolpfibhfmlaa
open Go.RowKit
set_option maxRecDepth 100000
set_option linter.unusedSimpArgs false
set_option linter.unusedVariables false

abbrev lv11FlAL : List (Nat × List Nat) := [(0, []), (1, [1, 2]), (2, [1, 2, 3, 4]), (3, [2, 3, 4, 5, 6]), (4, [2, 3, 4, 5, 6, 7, 8]), (5, [0])]
abbrev lv24FlAL : List (Nat × List Nat) := [(0, [0]), (1, [0, 2, 3]), (2, [0, 3, 4, 5]), (3, [0, 3, 5, 6, 7]), (4, [0, 3, 5, 7, 8, 9]), (5, [0, 1])]
abbrev lv5FlAL : List (Nat × List Nat) := [(0, []), (1, [1, 2]), (2, [1, 2, 3, 4]), (3, [1, 2, 4, 5, 6]), (4, [1, 2, 4, 5, 6, 8]), (5, [1, 2, 4, 5, 6, 8, 10]), (6, [1, 2, 4, 5, 6, 8, 10, 12]), (7, [1, 2, 4, 5, 6, 8, 10, 12, 14]), (8, [1, 2, 4, 5, 6, 8, 10, 12, 14, 16]), (9, [1, 2, 4, 5, 6, 8, 10, 12, 14, 16, 17, 18]), (10, [1, 2, 4, 5, 6, 8, 10, 12, 14, 16, 17, 18, 20]), (11, [1, 2, 4, 5, 6, 8, 10, 12, 14, 16, 17, 18, 20, 22]), (12, [1, 2, 4, 5, 6, 8, 10, 12, 14, 16, 17, 18, 20, 22, 24]), (13, [1, 2, 4, 5, 6, 8, 10, 12, 14, 16, 17, 18, 20, 22, 24, 26]), (14, [4, 5, 6, 8, 10, 12, 14, 16, 20, 22, 24, 26, 126]), (15, [0]), (16, [0])]
def frsS : Spec := { al := true, rel := fun args ins res outs => args = [] ∧ ins = [] ∧ res = .tup [fm ka4 km4 kc4, bv true] ∧ outs = [] }
theorem frs_at : frsS.rel [] [] (.tup [fm ka4 km4 kc4, bv true]) [] := ⟨rfl, rfl, rfl, rfl⟩
abbrev kNewS : Spec := NewFS
theorem kNew_ok : Ok Try.prog 31 kNewS := NewF_ok
theorem kNew_at : kNewS.rel [] [] (fm ka0 km0 kc0) [] := NewF_at
set_option maxHeartbeats 2000000 in
theorem frs_ok : Ok Try.prog 24 frsS := by
  refine fn_ok frsS Try.func24 rfl rfl ?_
  rintro args ins res outs ⟨rfl, rfl, rfl, rfl⟩
  refine ⟨by simp [Try.ntmps24], fun w0 V Bo mu0 => ?_⟩
  have hm0 : 0 < km4.length := by rw [km4_len]; decide
  have hm1 : 1 < km4.length := by rw [km4_len]; decide
  have m0 : encU km4[0] = [.int .u64 12] := rfl
  have m1 : encU km4[1] = [.int .u64 12] := rfl
  repeat' (first
    | (with_reducible first | refine W_seq ?_ | refine endQ_ret ?_ | refine endQ_normal ?_)
    | ((with_reducible first | refine hK _ ?_ | refine hK _ _ ?_); clear hK K)
    | ((first | (with_reducible first | refine ops_cons (fun K hK => ?_) | refine opsd_cons (fun K hK => ?_) | refine ops_nil ?_) | ((with_reducible refine opsd_nil ?_); refine And.intro (by kernel_rfl) ?_) | with_reducible refine callV_snap ?_ | ((with_reducible refine call_go kNewS kNew_ok ?_); refine ⟨(by first | exact alOk_nil _ | exact alOk_f rfl), _, _, kNew_at , ?_⟩) | ((with_reducible refine call_go kSpnS kSpn_ok ?_); refine ⟨(by first | exact alOk_nil _ | exact alOk_f rfl), _, _, kSpn_at , ?_⟩) | ((with_reducible refine call_go kMapS kMap_ok ?_); refine ⟨(by first | exact alOk_nil _ | exact alOk_f rfl), _, _, kMap_at , ?_⟩) | ((with_reducible refine call_go kWrtS kWrt_ok ?_); refine ⟨(by first | exact alOk_nil _ | exact alOk_f rfl), _, _, kWrt_at , ?_⟩) | ((with_reducible refine call_go kFrkS kFrk_ok ?_); refine ⟨(by first | exact alOk_nil _ | exact alOk_f rfl), _, _, kFrk_at , ?_⟩) | (with_reducible first | refine idx_map (by omega) ?_ | refine W_reg lv24FlAL ?_ | refine W_drw lv24FlAL (by kernel_rfl) ?_ | refine W_ret ?_ | refine end_at0 ?_) | (with_reducible refine And.intro (fun h => ?_) (fun h => ?_)) | (with_reducible refine And.intro (by omega) ?_)); (try simp only [go_sem, seval, reduceCtorEq, km4_len, kc4_len, m0, m1, lv24FlAL, Try.ntmps24, Try.results24, frsS]))
    | fail)
def lit (al : List Bool) (mp : List Nat) (cs : List Cl) : Bool := decide (al.length ≤ 20 ∧ mp.length ≤ 20 ∧ cs.length ≤ 80)
def litS : Spec := { rel := fun args ins res outs => ∃ (al : List Bool) (mp : List Nat) (cs : List Cl), args = [fm al mp cs] ∧ ins = [] ∧ res = bv (lit al mp cs) ∧ outs = [] }
theorem lit_at (al : List Bool) (mp : List Nat) (cs : List Cl) : litS.rel [fm al mp cs] [] (bv (lit al mp cs)) [] := ⟨al, mp, cs, rfl, rfl, rfl, rfl⟩
theorem lit_ok : Ok Try.prog 10 litS := by
  refine fn_ok litS Try.func10 rfl rfl ?_
  rintro args ins res outs ⟨al, mp, cs, rfl, rfl, rfl, rfl⟩
  refine ⟨by simp [Try.ntmps10], fun w0 V Bo mu0 => ?_⟩
  by_cases h1 : (al.length : Int) ≤ 20
  · by_cases h2 : (mp.length : Int) ≤ 20
    · by_cases h3 : (cs.length : Int) ≤ 80
      · rw [show lit al mp cs = true from decide_eq_true ⟨by omega, by omega, by omega⟩]
        repeat' (first
          | (with_reducible first | refine W_seq ?_ | refine endQ_ret ?_ | refine endQ_normal ?_)
          | ((with_reducible first | refine hK _ ?_ | refine hK _ _ ?_); clear hK K)
          | ((first | (with_reducible first | refine ops_cons (fun K hK => ?_) | refine ops_nil ?_) | with_reducible refine callV_snap ?_ | (with_reducible first | refine W_reg [(0, [1]), (1, [2])] ?_ | refine W_ret ?_ | refine end_at0 ?_) | (with_reducible refine And.intro (fun h => ?_) (fun h => ?_)) | (with_reducible refine And.intro (by omega) ?_)); (try simp only [go_sem, seval, reduceCtorEq, h1, h2, h3, Try.ntmps10, Try.results10, litS]))
          | fail)
      · rw [show lit al mp cs = false from decide_eq_false (fun h => by omega)]
        repeat' (first
          | (with_reducible first | refine W_seq ?_ | refine endQ_ret ?_ | refine endQ_normal ?_)
          | ((with_reducible first | refine hK _ ?_ | refine hK _ _ ?_); clear hK K)
          | ((first | (with_reducible first | refine ops_cons (fun K hK => ?_) | refine ops_nil ?_) | with_reducible refine callV_snap ?_ | (with_reducible first | refine W_reg [(0, [1]), (1, [2])] ?_ | refine W_ret ?_ | refine end_at0 ?_) | (with_reducible refine And.intro (fun h => ?_) (fun h => ?_)) | (with_reducible refine And.intro (by omega) ?_)); (try simp only [go_sem, seval, reduceCtorEq, h1, h2, h3, Try.ntmps10, Try.results10, litS]))
          | fail)
    · rw [show lit al mp cs = false from decide_eq_false (fun h => by omega)]
      repeat' (first
        | (with_reducible first | refine W_seq ?_ | refine endQ_ret ?_ | refine endQ_normal ?_)
        | ((with_reducible first | refine hK _ ?_ | refine hK _ _ ?_); clear hK K)
        | ((first | (with_reducible first | refine ops_cons (fun K hK => ?_) | refine ops_nil ?_) | with_reducible refine callV_snap ?_ | (with_reducible first | refine W_reg [(0, [1]), (1, [2])] ?_ | refine W_ret ?_ | refine end_at0 ?_) | (with_reducible refine And.intro (fun h => ?_) (fun h => ?_)) | (with_reducible refine And.intro (by omega) ?_)); (try simp only [go_sem, seval, reduceCtorEq, h1, h2, Try.ntmps10, Try.results10, litS]))
        | fail)
  · rw [show lit al mp cs = false from decide_eq_false (fun h => by omega)]
    repeat' (first
      | (with_reducible first | refine W_seq ?_ | refine endQ_ret ?_ | refine endQ_normal ?_)
      | ((with_reducible first | refine hK _ ?_ | refine hK _ _ ?_); clear hK K)
      | ((first | (with_reducible first | refine ops_cons (fun K hK => ?_) | refine ops_nil ?_) | with_reducible refine callV_snap ?_ | (with_reducible first | refine W_reg [(0, [1]), (1, [2])] ?_ | refine W_ret ?_ | refine end_at0 ?_) | (with_reducible refine And.intro (fun h => ?_) (fun h => ?_)) | (with_reducible refine And.intro (by omega) ?_)); (try simp only [go_sem, seval, reduceCtorEq, h1, Try.ntmps10, Try.results10, litS]))
      | fail)
def awkS : Spec := { al := true, rel := fun args ins res outs => args = [] ∧ ins = [] ∧ res = bv true ∧ outs = [] }
theorem awk_at : awkS.rel [] [] (bv true) [] := ⟨rfl, rfl, rfl, rfl⟩
set_option maxHeartbeats 2000000 in
theorem awk_ok : Ok Try.prog 11 awkS := by
  refine fn_ok awkS Try.func11 rfl rfl ?_
  rintro args ins res outs ⟨rfl, rfl, rfl, rfl⟩
  refine ⟨by simp [Try.ntmps11], fun w0 V Bo mu0 => ?_⟩
  repeat' (first
    | (with_reducible first | refine W_seq ?_ | refine endQ_ret ?_ | refine endQ_normal ?_)
    | ((with_reducible first | refine hK _ ?_ | refine hK _ _ ?_); clear hK K)
    | ((first | (with_reducible first | refine ops_cons (fun K hK => ?_) | refine ops_nil ?_) | with_reducible refine callV_snap ?_ | ((with_reducible refine call_go frsS frs_ok ?_); refine ⟨(by first | exact alOk_nil _ | exact alOk_f rfl), _, _, frs_at , ?_⟩) | ((with_reducible refine call_go kWrBS kWrB_ok ?_); refine ⟨(by first | exact alOk_nil _ | exact alOk_f rfl), _, _, kWrB_at , ?_⟩) | ((with_reducible refine call_go kSmAS kSmA_ok ?_); refine ⟨(by first | exact alOk_nil _ | exact alOk_f rfl), _, _, kSmA_at , ?_⟩) | ((with_reducible refine call_go kSmBS kSmB_ok ?_); refine ⟨(by first | exact alOk_nil _ | exact alOk_f rfl), _, _, kSmB_at , ?_⟩) | ((with_reducible refine call_go kRsAS kRsA_ok ?_); refine ⟨(by first | exact alOk_nil _ | exact alOk_f rfl), _, _, kRsA_at , ?_⟩) | ((with_reducible refine call_go kRsBS kRsB_ok ?_); refine ⟨(by first | exact alOk_nil _ | exact alOk_f rfl), _, _, kRsB_at , ?_⟩) | ((with_reducible refine call_go kRsCS kRsC_ok ?_); refine ⟨(by first | exact alOk_nil _ | exact alOk_f rfl), _, _, kRsC_at , ?_⟩) | (with_reducible first | refine W_reg lv11FlAL ?_ | refine W_ret ?_ | refine end_at0 ?_) | (with_reducible refine And.intro (fun h => ?_) (fun h => ?_)) | (with_reducible refine And.intro (by omega) ?_)); (try simp only [go_sem, seval, reduceCtorEq, lv11FlAL, Try.ntmps11, Try.results11, awkS]))
    | fail)
def knoS : Spec := { al := true, rel := fun args ins res outs => args = [] ∧ ins = [] ∧ res = bv true ∧ outs = [] }
theorem kno_at : knoS.rel [] [] (bv true) [] := ⟨rfl, rfl, rfl, rfl⟩
set_option maxHeartbeats 4000000 in
theorem kno_ok : Ok Try.prog 5 knoS := by
  refine fn_ok knoS Try.func5 rfl rfl ?_
  rintro args ins res outs ⟨rfl, rfl, rfl, rfl⟩
  refine ⟨by simp [Try.ntmps5], fun w0 V Bo mu0 => ?_⟩
  have hc0 : 0 < kc4.length := by rw [kc4_len]; decide
  have hc1 : 1 < kc4.length := by rw [kc4_len]; decide
  have c0 : encCl kc4[0] = [.int .i64 1, .int .i64 3, .int .i64 7, .int .u64 9] := rfl
  have c1 : encCl kc4[1] = [.int .i64 2, .int .i64 3, .int .i64 7, .int .u64 9] := rfl
  repeat' (first
    | (with_reducible first | refine W_seq ?_ | refine W_condT rfl ?_ | refine W_condF rfl ?_ | refine W_tf rfl (fun h => ?_) (fun h => ?_) | refine endQ_ret ?_ | refine endQ_normal ?_)
    | ((with_reducible first | refine hK _ ?_ | refine hK _ _ ?_); clear hK K)
    | ((with_reducible refine And.intro eqt_cell ?_); (try simp only [go_sem, seval, reduceCtorEq]))
    | ((first | (with_reducible first | refine ops_cons (fun K hK => ?_) | refine ops_nil ?_) | with_reducible refine callV_snap ?_ | ((with_reducible refine call_go frsS frs_ok ?_); refine ⟨(by first | exact alOk_nil _ | exact alOk_f rfl), _, _, frs_at , ?_⟩) | ((with_reducible refine call_go awkS awk_ok ?_); refine ⟨(by first | exact alOk_nil _ | exact alOk_f rfl), _, _, awk_at , ?_⟩) | ((with_reducible refine call_go kUnBS kUnB_ok ?_); refine ⟨(by first | exact alOk_nil _ | exact alOk_f rfl), _, _, kUnB_at , ?_⟩) | ((with_reducible refine call_go kMaBS kMaB_ok ?_); refine ⟨(by first | exact alOk_nil _ | exact alOk_f rfl), _, _, kMaB_at , ?_⟩) | ((with_reducible refine call_go kRdBS kRdB_ok ?_); refine ⟨(by first | exact alOk_nil _ | exact alOk_f rfl), _, _, kRdB_at , ?_⟩) | ((with_reducible refine call_go kRdCS kRdC_ok ?_); refine ⟨(by first | exact alOk_nil _ | exact alOk_f rfl), _, _, kRdC_at , ?_⟩) | ((with_reducible refine call_go kMaCS kMaC_ok ?_); refine ⟨(by first | exact alOk_nil _ | exact alOk_f rfl), _, _, kMaC_at , ?_⟩) | ((with_reducible refine call_go kUnCS kUnC_ok ?_); refine ⟨(by first | exact alOk_nil _ | exact alOk_f rfl), _, _, kUnC_at , ?_⟩) | ((with_reducible refine call_go kMaDS kMaD_ok ?_); refine ⟨(by first | exact alOk_nil _ | exact alOk_f rfl), _, _, kMaD_at , ?_⟩) | ((with_reducible refine call_go kWrCS kWrC_ok ?_); refine ⟨(by first | exact alOk_nil _ | exact alOk_f rfl), _, _, kWrC_at , ?_⟩) | ((with_reducible refine call_go kSpBS kSpB_ok ?_); refine ⟨(by first | exact alOk_nil _ | exact alOk_f rfl), _, _, kSpB_at , ?_⟩) | ((with_reducible refine call_go kFrBS kFrB_ok ?_); refine ⟨(by first | exact alOk_nil _ | exact alOk_f rfl), _, _, kFrB_at , ?_⟩) | ((with_reducible refine call_go kFrCS kFrC_ok ?_); refine ⟨(by first | exact alOk_nil _ | exact alOk_f rfl), _, _, kFrC_at , ?_⟩) | ((with_reducible refine call_go kRdDS kRdD_ok ?_); refine ⟨(by first | exact alOk_nil _ | exact alOk_f rfl), _, _, kRdD_at , ?_⟩) | ((with_reducible refine call_go kRsDS kRsD_ok ?_); refine ⟨(by first | exact alOk_nil _ | exact alOk_f rfl), _, _, kRsD_at , ?_⟩) | ((with_reducible refine call_go kRsES kRsE_ok ?_); refine ⟨(by first | exact alOk_nil _ | exact alOk_f rfl), _, _, kRsE_at , ?_⟩) | (with_reducible first | refine idx_map (by omega) ?_ | refine W_reg lv5FlAL ?_ | refine W_skip ?_ | refine W_ret ?_ | refine end_at0 ?_) | (with_reducible refine And.intro (fun h => ?_) (fun h => ?_)) | (with_reducible refine And.intro (by omega) ?_)); (try simp only [go_sem, seval, reduceCtorEq, kc4_len, kc6_len, c0, c1, lv5FlAL, Try.ntmps5, Try.results5, knoS]))
    | fail)
end Go.Proofs.Ytdfolpfibhfmlaa
