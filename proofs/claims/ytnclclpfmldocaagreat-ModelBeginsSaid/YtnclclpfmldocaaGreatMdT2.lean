/- ModelBegins, by the engine. -/
import Derived.Test.YtnclclpfmldocaaGreatMdM
namespace Go.Proofs.YtnclclpfmldocaaGreat
open Go.RowKit
set_option maxRecDepth 100000
set_option linter.unusedSimpArgs false
set_option linter.unusedVariables false

abbrev lv3MdT2 : List (Nat × List Nat) := [(0, [0, 1, 2]), (1, [1, 2, 7, 8, 9]), (2, [1, 7, 8, 9, 10]), (3, [7, 9, 10, 11]), (4, [7, 9, 10, 11, 12]), (5, [7, 9, 10, 11, 47]), (6, [6]), (7, [7, 10, 11, 14, 15]), (8, [7, 10, 14, 15, 16]), (9, [7, 10, 14, 15, 16, 17, 18]), (10, [10, 14, 15, 17, 18, 19]), (11, [10, 14, 15, 17, 18, 20, 21]), (12, [6])]
def bgnS : Spec := { al := true, rel := fun args ins res outs => ∃ (l : List Int) (n c : Int), args = [dI l, iv n, iv c] ∧ ins = [] ∧ res = bv true ∧ outs = [] }
abbrev alwBS : Spec := alwS
abbrev alwCS : Spec := alwS
theorem alwB_ok : Ok Tryz.prog 13 alwBS := alw_ok
theorem alwC_ok : Ok Tryz.prog 13 alwCS := alw_ok
set_option maxHeartbeats 4000000 in
theorem bgn_ok : Ok Tryz.prog 3 bgnS := by
  refine fn_ok bgnS Tryz.func3 rfl rfl ?_
  rintro args ins res outs ⟨l, n, c, rfl, rfl, rfl, rfl⟩
  refine ⟨by simp [Tryz.ntmps3], fun w0 V Bo mu0 => ?_⟩
  have M0 := madeF_at l 40 0 true (by decide) (by decide)
  obtain ⟨hM, hMl, _⟩ := mk_mad 0 true (l.take 40)
  have h60 : (madO 0 true (l.take 40)).1.length ≤ 60 := by rw [List.length_take] at hMl; omega
  obtain ⟨v1, v2, v3, v4, v5, v6⟩ := vs_len hM.v
  generalize madO 0 true (l.take 40) = a at *
  have madeF_at : madeFS.rel [dI l, iv 40, iv 0, bv true] [] (.tup [ocL a.1, syA a.2, bv true]) [] := M0
  obtain ⟨k, hk⟩ : ∃ k : Nat, c % ((a.1.length : Int) + 1) = (k : Int) := ⟨(c % ((a.1.length : Int) + 1)).toNat, by have := Int.emod_nonneg c (show (a.1.length : Int) + 1 ≠ 0 by omega); omega⟩
  have hkl : k ≤ a.1.length := by have := Int.emod_lt_of_pos c (show 0 < (a.1.length : Int) + 1 by omega); omega
  have D0 := Mod_at c ((a.1.length : Int) + 1) (by omega) (by omega)
  rw [hk] at D0
  have Mod_at : ModS.rel [iv c, iv ((a.1.length : Int) + 1)] [] (iv (k : Int)) [] := D0
  clear D0 hk
  have O0 := outc_at a.2 n 0 true v5 v6 (by decide)
  generalize outc a.2 (numM n) 0 true = x at *
  have outc_at : outcS.rel [syA a.2, iv n, iv 0, bv true] [] (ocA x) [] := O0
  have T0 := Trk_at [x] (by simp) trE_one
  by_cases hx : ocE x = 0
  case neg =>
    generalize ocE x = E at *
    have Trk_at : TrkS.rel [ocL [x]] [] (.tup [iv E, iv ((0 : Nat) : Int)]) [] := T0
    repeat' (first
      | (with_reducible first | refine W_seq ?_ | refine W_condT rfl ?_ | refine W_condF rfl ?_ | refine W_tf rfl (fun h => ?_) (fun h => ?_) | refine endQ_ret ?_ | refine endQ_normal ?_)
      | ((with_reducible first | refine hK _ ?_ | refine hK _ _ ?_); clear hK K)
      | ((first | (with_reducible first | refine ops_cons (fun K hK => ?_) | refine opsd_cons (fun K hK => ?_) | refine ops_nil ?_ | refine fit_i64 (by omega) ?_ | refine fit_any ?_) | ((with_reducible refine opsd_nil ?_); refine And.intro (by kernel_rfl) ?_) | with_reducible refine callV_snap ?_ | ((with_reducible refine call_go madeFS madeF_ok ?_); refine ⟨(by first | exact alOk_nil _ | exact alOk_f rfl), _, _, madeF_at , ?_⟩) | ((with_reducible refine call_go ModS Mod_ok ?_); refine ⟨(by first | exact alOk_nil _ | exact alOk_f rfl), _, _, Mod_at , ?_⟩) | ((with_reducible refine call_go outcS outc_ok ?_); refine ⟨(by first | exact alOk_nil _ | exact alOk_f rfl), _, _, outc_at , ?_⟩) | ((with_reducible refine call_go TrkS Trk_ok ?_); refine ⟨(by first | exact alOk_nil _ | exact alOk_f rfl), _, _, Trk_at , ?_⟩) | ((with_reducible refine call_go awkS awk_ok ?_); refine ⟨(by first | exact alOk_nil _ | exact alOk_f rfl), _, _, awk_at , ?_⟩) | (with_reducible first | refine slice_old ?_ | refine app_grow ?_ | refine W_reg lv3MdT2 ?_ | refine W_drw lv3MdT2 (by kernel_rfl) ?_ | refine W_skip ?_ | refine W_ret ?_ | refine end_at0 ?_) | (with_reducible refine And.intro (fun h => ?_) (fun h => ?_)) | (with_reducible refine And.intro (by omega) ?_)); (try simp only [go_sem, seval, reduceCtorEq, hx, lv3MdT2, Tryz.ntmps3, Tryz.results3, bgnS]))
      | fail)
  rw [hx] at T0
  have Trk_at : TrkS.rel [ocL [x]] [] (.tup [iv 0, iv ((0 : Nat) : Int)]) [] := T0
  obtain ⟨u, hu, hd⟩ := run_take hM.r k
  have hvu : ∀ y ∈ a.1.take k, ocE y = 0 := fun y hy => hM.o y (List.mem_of_mem_take hy)
  have lT : (a.1.take k).length = k := by rw [List.length_take]; omega
  have lD : (a.1.drop k).length ≤ 60 := by rw [List.length_drop]; omega
  obtain ⟨X, hX⟩ : ∃ X, a.1.take k ++ [x] = X := ⟨_, rfl⟩
  obtain ⟨Y, hY⟩ : ∃ Y, X ++ a.1.drop k = Y := ⟨_, rfl⟩
  have lX : X.length = k + 1 := by rw [← hX, List.length_append, lT]; rfl
  have lY : Y.length ≤ 1000 := by rw [← hY, List.length_append, lX]; omega
  have vX : ∀ y ∈ X, ocE y = 0 := fun y hy => by
    rw [← hX] at hy
    rcases List.mem_append.1 hy with hy | hy
    · exact hvu y hy
    · simp at hy; exact hy ▸ hx
  have vY : ∀ y ∈ Y, ocE y = 0 := fun y hy => by
    rw [← hY] at hy
    rcases List.mem_append.1 hy with hy | hy
    · exact vX y hy
    · exact hM.o y (List.mem_of_mem_drop hy)
  have tT := trE_zero (show (a.1.take k).length ≤ 5000 by omega) hvu
  have tX := trE_zero (show X.length ≤ 5000 by omega) vX
  have tY := trE_zero (show Y.length ≤ 5000 by omega) vY
  have nT : tlN (a.1.take k) = k := by unfold tlN; rw [tT, wk_run hu]; exact lT
  have nX : tlN X = k ∨ tlN X = k + 1 := by
    have e1 : tlN X = (wk sy0 X).1 := by unfold tlN; rw [tX]; rfl
    have h1 := wk_mono (a.1.take k) [x] sy0
    have h2 := wk_le X sy0
    rw [wk_run hu, hX] at h1
    dsimp only at h1
    omega
  have nY : tlN X ≤ tlN Y := by
    have e1 : tlN X = (wk sy0 X).1 := by unfold tlN; rw [tX]; rfl
    have e2 : tlN Y = (wk sy0 Y).1 := by unfold tlN; rw [tY]; rfl
    rw [e1, e2, ← hY]
    exact wk_mono X (a.1.drop k) sy0
  have A0 := alw_at (a.1.take k) (by omega) nT (e := 0) (by rw [tT])
  have B0 := alw_at X (by omega) (n := tlN X) (e := 0) rfl (by rw [tX])
  have C0 := alw_at Y (by omega) (n := tlN Y) (e := 0) rfl (by rw [tY])
  have m1 : (a.1.map encOc).take k = (a.1.take k).map encOc := List.map_take.symm
  have m2 : (a.1.map encOc).drop k = (a.1.drop k).map encOc := List.map_drop.symm
  have m3 : (a.1.take k).map encOc ++ [[.int .i64 x.k, .int .i64 x.p, .int .i64 x.o, .int .i64 x.g, .int .i64 x.w, .int .u64 (x.t : Int), .int .u64 (x.v : Int)]] = X.map encOc := by rw [← hX, List.map_append]; rfl
  have m4 : X.map encOc ++ (a.1.drop k).map encOc = Y.map encOc := by rw [← hY, List.map_append]
  have m5 : (a.1.take k).length + 1 = X.length := by omega
  have m6 : X.length + (a.1.drop k).length = Y.length := by rw [← hY, List.length_append]
  have m7 : ((a.1.drop k).map encOc).take (a.1.length - k) = (a.1.drop k).map encOc := List.take_of_length_le (by rw [List.length_map, List.length_drop]; omega)
  generalize tlN X = p at *
  generalize tlN Y = q at *
  have alw_at : alwS.rel [ocL (a.1.take k)] [] (.tup [iv (k : Int), iv 0]) [] := A0
  have alwB_at : alwBS.rel [ocL X] [] (.tup [iv (p : Int), iv 0]) [] := B0
  have alwC_at : alwCS.rel [ocL Y] [] (.tup [iv (q : Int), iv 0]) [] := C0
  have hq : (p : Int) ≤ (q : Int) := by omega
  have hki : (k : Int) ≤ (a.1.length : Int) := by omega
  generalize a.1.take k = T at *
  generalize a.1.drop k = D at *
  by_cases hp : p = k
  · have hp' : (p : Int) = (k : Int) := by omega
    have hq' : (k : Int) ≤ (q : Int) := by omega
    repeat' (first
      | (with_reducible first | refine W_seq ?_ | refine W_condT rfl ?_ | refine W_condF rfl ?_ | refine W_tf rfl (fun h => ?_) (fun h => ?_) | refine endQ_ret ?_ | refine endQ_normal ?_)
      | ((with_reducible first | refine hK _ ?_ | refine hK _ _ ?_); clear hK K)
      | ((with_reducible refine And.intro (encOce.rows _) ?_))
      | ((first | (with_reducible first | refine ops_cons (fun K hK => ?_) | refine opsd_cons (fun K hK => ?_) | refine ops_nil ?_ | refine fit_i64 (by omega) ?_ | refine fit_any ?_) | ((with_reducible refine opsd_nil ?_); refine And.intro (by kernel_rfl) ?_) | with_reducible refine callV_snap ?_ | ((with_reducible refine call_go madeFS madeF_ok ?_); refine ⟨(by first | exact alOk_nil _ | exact alOk_f rfl), _, _, madeF_at , ?_⟩) | ((with_reducible refine call_go ModS Mod_ok ?_); refine ⟨(by first | exact alOk_nil _ | exact alOk_f rfl), _, _, Mod_at , ?_⟩) | ((with_reducible refine call_go outcS outc_ok ?_); refine ⟨(by first | exact alOk_nil _ | exact alOk_f rfl), _, _, outc_at , ?_⟩) | ((with_reducible refine call_go TrkS Trk_ok ?_); refine ⟨(by first | exact alOk_nil _ | exact alOk_f rfl), _, _, Trk_at , ?_⟩) | ((with_reducible refine call_go awkS awk_ok ?_); refine ⟨(by first | exact alOk_nil _ | exact alOk_f rfl), _, _, awk_at , ?_⟩) | ((with_reducible refine call_go alwS alw_ok ?_); refine ⟨(by first | exact alOk_nil _ | exact alOk_f rfl), _, _, alw_at , ?_⟩) | ((with_reducible refine call_go alwBS alwB_ok ?_); refine ⟨(by first | exact alOk_nil _ | exact alOk_f rfl), _, _, alwB_at , ?_⟩) | ((with_reducible refine call_go alwCS alwC_ok ?_); refine ⟨(by first | exact alOk_nil _ | exact alOk_f rfl), _, _, alwC_at , ?_⟩) | (with_reducible first | refine slice_old ?_ | refine app_grow ?_ | refine W_reg lv3MdT2 ?_ | refine W_drw lv3MdT2 (by kernel_rfl) ?_ | refine W_skip ?_ | refine W_ret ?_ | refine end_at0 ?_) | (with_reducible refine And.intro (fun h => ?_) (fun h => ?_)) | (with_reducible refine And.intro (by omega) ?_)); (try simp only [go_sem, seval, reduceCtorEq, hki, m1, m2, m3, m4, m5, m6, m7, hp', hq', Nat.sub_zero, List.length_map, lv3MdT2, Tryz.ntmps3, Tryz.results3, bgnS]))
      | fail)
    all_goals trace_state
  · have hp' : ¬ (p : Int) = (k : Int) := by omega
    have hp2 : (p : Int) = (k : Int) + 1 := by omega
    have hp3 : ¬ (k : Int) + 1 = (k : Int) := by omega
    have hq' : (k : Int) + 1 ≤ (q : Int) := by omega
    repeat' (first
      | (with_reducible first | refine W_seq ?_ | refine W_condT rfl ?_ | refine W_condF rfl ?_ | refine W_tf rfl (fun h => ?_) (fun h => ?_) | refine endQ_ret ?_ | refine endQ_normal ?_)
      | ((with_reducible first | refine hK _ ?_ | refine hK _ _ ?_); clear hK K)
      | ((with_reducible refine And.intro (encOce.rows _) ?_))
      | ((first | (with_reducible first | refine ops_cons (fun K hK => ?_) | refine opsd_cons (fun K hK => ?_) | refine ops_nil ?_ | refine fit_i64 (by omega) ?_ | refine fit_any ?_) | ((with_reducible refine opsd_nil ?_); refine And.intro (by kernel_rfl) ?_) | with_reducible refine callV_snap ?_ | ((with_reducible refine call_go madeFS madeF_ok ?_); refine ⟨(by first | exact alOk_nil _ | exact alOk_f rfl), _, _, madeF_at , ?_⟩) | ((with_reducible refine call_go ModS Mod_ok ?_); refine ⟨(by first | exact alOk_nil _ | exact alOk_f rfl), _, _, Mod_at , ?_⟩) | ((with_reducible refine call_go outcS outc_ok ?_); refine ⟨(by first | exact alOk_nil _ | exact alOk_f rfl), _, _, outc_at , ?_⟩) | ((with_reducible refine call_go TrkS Trk_ok ?_); refine ⟨(by first | exact alOk_nil _ | exact alOk_f rfl), _, _, Trk_at , ?_⟩) | ((with_reducible refine call_go awkS awk_ok ?_); refine ⟨(by first | exact alOk_nil _ | exact alOk_f rfl), _, _, awk_at , ?_⟩) | ((with_reducible refine call_go alwS alw_ok ?_); refine ⟨(by first | exact alOk_nil _ | exact alOk_f rfl), _, _, alw_at , ?_⟩) | ((with_reducible refine call_go alwBS alwB_ok ?_); refine ⟨(by first | exact alOk_nil _ | exact alOk_f rfl), _, _, alwB_at , ?_⟩) | ((with_reducible refine call_go alwCS alwC_ok ?_); refine ⟨(by first | exact alOk_nil _ | exact alOk_f rfl), _, _, alwC_at , ?_⟩) | (with_reducible first | refine slice_old ?_ | refine app_grow ?_ | refine W_reg lv3MdT2 ?_ | refine W_drw lv3MdT2 (by kernel_rfl) ?_ | refine W_skip ?_ | refine W_ret ?_ | refine end_at0 ?_) | (with_reducible refine And.intro (fun h => ?_) (fun h => ?_)) | (with_reducible refine And.intro (by omega) ?_)); (try simp only [go_sem, seval, reduceCtorEq, hki, m1, m2, m3, m4, m5, m6, m7, hp2, hp3, hq', Nat.sub_zero, List.length_map, lv3MdT2, Tryz.ntmps3, Tryz.results3, bgnS]))
      | fail)
    all_goals trace_state
end Go.Proofs.YtnclclpfmldocaaGreat
