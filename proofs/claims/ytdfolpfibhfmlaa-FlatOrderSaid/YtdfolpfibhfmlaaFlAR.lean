import Derived.Test.YtdfolpfibhfmlaaFlBB
import Derived.Test.YtdfolpfibhfmlaaFlBC
import Derived.Test.YtdfolpfibhfmlaaFlBD

/- A flat memory: step at every number. -/
namespace Go.Proofs.Ytdfolpfibhfmlaa
open Go.RowKit
set_option maxRecDepth 100000
set_option linter.unusedSimpArgs false
set_option linter.unusedVariables false

abbrev lv38FlAR : List (Nat × List Nat) := [(0, [0, 2]), (1, [0, 2, 4, 5]), (2, [0, 2, 4, 6]), (3, [0, 2, 4, 6, 7]), (4, [0, 2, 4, 6, 7, 25]), (5, [0, 2, 4, 6, 7]), (6, [0, 2, 4, 6, 7]), (7, [2, 3])]
abbrev lv8FlAR : List (Nat × List Nat) := [(0, [0, 1, 2]), (1, [0, 1, 2, 7]), (2, [1, 2, 7, 8, 9]), (3, [1, 2, 7, 8, 9]), (4, [1, 2, 7, 8, 9, 46]), (5, [6]), (6, [1, 2, 7, 8, 10, 11]), (7, [1, 2, 7, 8, 10, 11, 12]), (8, [1, 7, 10, 11, 12, 13, 14]), (9, [7, 10, 11, 12, 13, 14, 15]), (10, [6])]
theorem stp_ok : Ok Try.prog 40 stpS := by
  refine ⟨stp0_ok.1, fun args ins res outs hr => ?_⟩
  obtain ⟨s, n, hV, h1, h2, h3, h4⟩ := hr
  have hm : numN n % 8 = 0 ∨ numN n % 8 = 1 ∨ numN n % 8 = 2 ∨ numN n % 8 = 3 ∨ numN n % 8 = 4 ∨ 5 ≤ numN n % 8 := by omega
  rcases hm with h | h | h | h | h | h
  · exact stp0_ok.2 _ _ _ _ ⟨s, n, hV, h, h1, h2, h3, h4⟩
  · exact stp1_ok.2 _ _ _ _ ⟨s, n, hV, h, h1, h2, h3, h4⟩
  · exact stp2_ok.2 _ _ _ _ ⟨s, n, hV, h, h1, h2, h3, h4⟩
  · exact stp3_ok.2 _ _ _ _ ⟨s, n, hV, h, h1, h2, h3, h4⟩
  · exact stp4_ok.2 _ _ _ _ ⟨s, n, hV, h, h1, h2, h3, h4⟩
  · exact stp5_ok.2 _ _ _ _ ⟨s, n, hV, h, h1, h2, h3, h4⟩
end Go.Proofs.Ytdfolpfibhfmlaa

/- A flat memory: made and FlatOrder, by the engine. -/
namespace Go.Proofs.Ytdfolpfibhfmlaa
open Go.RowKit
set_option maxRecDepth 100000
set_option linter.unusedSimpArgs false
set_option linter.unusedVariables false

def stG (l : List Int) (i : Nat) : FSt := (l.take i).foldl (fun s n => aft (opOf (numN n)) s) s1F
theorem stG_vl (l : List Int) (i : Nat) : Vl (stG l i) := (fold_inv _ _ s1_vl s1_low).1
theorem stG_succ {l : List Int} {i : Nat} (h : i < l.length) : stG l (i + 1) = aft (opOf (numN l[i])) (stG l i) := by
  unfold stG
  rw [take_get l i h, List.foldl_append]
  rfl
def madS : Spec := { al := true, rel := fun args ins res outs => ∃ l : List Int, args = [dI l] ∧ ins = [] ∧ res = .tup [fm (madG l).1 (madG l).2.1 (madG l).2.2, bv true] ∧ outs = [] }
theorem mad_at (l : List Int) : madS.rel [dI l] [] (.tup [fm (madG l).1 (madG l).2.1 (madG l).2.2, bv true]) [] := ⟨l, rfl, rfl, rfl, rfl⟩
set_option maxHeartbeats 4000000 in
theorem mad_ok : Ok Try.prog 38 madS := by
  refine fn_ok madS Try.func38 rfl rfl ?_
  rintro args ins res outs ⟨l, rfl, rfl, rfl, rfl⟩
  refine ⟨by simp [Try.ntmps38], fun w0 V Bo mu0 => ?_⟩
  repeat' (first
    | (with_reducible first | refine W_seq ?_ | refine W_condT rfl ?_ | refine W_condF rfl ?_ | refine W_tf rfl (fun h => ?_) (fun h => ?_) | refine W_block ?_ | refine endQ_ret ?_ | refine endQ_normal ?_)
    | ((with_reducible first | refine hK _ ?_ | refine hK _ _ ?_); clear hK K)
    | ((first | (with_reducible first | refine ops_cons (fun K hK => ?_) | refine opsd_cons (fun K hK => ?_) | refine ops_nil ?_ | refine fit_i64 (by omega) ?_ | refine fit_any ?_) | ((with_reducible refine opsd_nil ?_); refine And.intro (by kernel_rfl) ?_) | with_reducible refine callV_snap ?_ | ((with_reducible refine call_go kNewS kNew_ok ?_); refine ⟨(by first | exact alOk_nil _ | exact alOk_f rfl), _, _, kNew_at , ?_⟩) | ((with_reducible refine call_go kSpnS kSpn_ok ?_); refine ⟨(by first | exact alOk_nil _ | exact alOk_f rfl), _, _, kSpn_at , ?_⟩) | (with_reducible first | refine idx_map (by omega) ?_ | refine W_reg lv38FlAR ?_ | refine W_drw lv38FlAR (by kernel_rfl) ?_ | refine W_skip ?_ | refine W_exit ?_ | refine W_ret ?_ | refine end_at0 ?_) | (with_reducible refine And.intro (fun h => ?_) (fun h => ?_)) | (with_reducible refine And.intro (by omega) ?_)); (try simp only [go_sem, seval, reduceCtorEq, lv38FlAR, Try.ntmps38, Try.results38, madS]))
    | fail)
  refine W_loop (fun i : Nat => ⟨[(0, dI l), (2, .ptr 0 0), (4, .ptr 1 0), (6, bv true), (7, iv (i : Int))], [some (.box 26 [.nil, .nil, .nil]), some (.box 26 [.d (.sl ((stG l i).1.map encDB)), .d (.sl ((stG l i).2.1.map encU)), .d (.sl ((stG l i).2.2.map encCl))])]⟩) (fun i => i ≤ l.length ∧ i ≤ 40) (fun i => 40 - i) 0 ⟨Nat.zero_le _, Nat.zero_le _⟩ [0, 1] ?_ ?_
  · simp [go_sem, stG, s1F]
  rintro i ⟨hi, hi4⟩
  by_cases hlt : i < l.length
  · have hki : (i : Int) < l.length := by omega
    by_cases h4 : i < 40
    · have h4i : (i : Int) < 40 := by omega
      have hs := stG_succ hlt
      have hv := stG_vl l i
      obtain ⟨x, hx⟩ : ∃ x, l[i] = x := ⟨_, rfl⟩
      have e0 : encDI l[i] = [.int .i64 x] := by rw [hx]; rfl
      rw [hx] at hs
      have S0 := stp_at _ x hv
      rw [← hs] at S0
      generalize hT : stG l (i + 1) = T at *
      generalize stG l i = S at *
      have stp_at : stpS.rel [fm S.1 S.2.1 S.2.2, iv x] [] (.tup [fm T.1 T.2.1 T.2.2, bv true]) [] := S0
      repeat' (first
        | (with_reducible first | refine W_seq ?_ | refine W_condT rfl ?_ | refine W_condF rfl ?_ | refine W_tf rfl (fun h => ?_) (fun h => ?_) | refine W_block ?_ | refine endQ_ret ?_ | refine endQ_normal ?_)
        | ((with_reducible first | refine hK _ ?_ | refine hK _ _ ?_); clear hK K)
        | ((first | (with_reducible first | refine ops_cons (fun K hK => ?_) | refine opsd_cons (fun K hK => ?_) | refine ops_nil ?_ | refine fit_i64 (by omega) ?_ | refine fit_any ?_) | ((with_reducible refine opsd_nil ?_); refine And.intro (by kernel_rfl) ?_) | with_reducible refine callV_snap ?_ | ((with_reducible refine call_go stpS stp_ok ?_); refine ⟨(by first | exact alOk_nil _ | exact alOk_f rfl), _, _, stp_at , ?_⟩) | (with_reducible first | refine idx_map (by omega) ?_ | refine W_reg lv38FlAR ?_ | refine W_drw lv38FlAR (by kernel_rfl) ?_ | refine W_skip ?_ | refine W_exit ?_ | refine W_ret ?_ | refine end_at0 ?_) | (with_reducible refine And.intro (fun h => ?_) (fun h => ?_)) | (with_reducible refine And.intro (by omega) ?_)); (try simp only [go_sem, seval, reduceCtorEq, hki, h4i, e0, lv38FlAR, Try.ntmps38, Try.results38, madS]))
        | fail)
      refine ⟨i + 1, [0, 1], ⟨by omega, by omega⟩, by omega, ?_⟩
      simp [go_sem, hT]
    · have h4i : ¬ (i : Int) < 40 := by omega
      obtain rfl : i = 40 := by omega
      have e : madG l = stG l 40 := rfl
      rw [e]
      repeat' (first
        | (with_reducible first | refine W_seq ?_ | refine W_condT rfl ?_ | refine W_condF rfl ?_ | refine W_tf rfl (fun h => ?_) (fun h => ?_) | refine W_block ?_ | refine endQ_ret ?_ | refine endQ_normal ?_)
        | ((with_reducible first | refine hK _ ?_ | refine hK _ _ ?_); clear hK K)
        | ((first | (with_reducible first | refine ops_cons (fun K hK => ?_) | refine opsd_cons (fun K hK => ?_) | refine ops_nil ?_ | refine fit_i64 (by omega) ?_ | refine fit_any ?_) | ((with_reducible refine opsd_nil ?_); refine And.intro (by kernel_rfl) ?_) | with_reducible refine callV_snap ?_ | (with_reducible first | refine idx_map (by omega) ?_ | refine W_reg lv38FlAR ?_ | refine W_drw lv38FlAR (by kernel_rfl) ?_ | refine W_skip ?_ | refine W_exit ?_ | refine W_ret ?_ | refine end_at0 ?_) | (with_reducible refine And.intro (fun h => ?_) (fun h => ?_)) | (with_reducible refine And.intro (by omega) ?_)); (try simp only [go_sem, seval, reduceCtorEq, hki, h4i, lv38FlAR, Try.ntmps38, Try.results38, madS]))
        | fail)
  · have hki : ¬ (i : Int) < l.length := by omega
    obtain rfl : i = l.length := by omega
    have e : madG l = stG l l.length := by unfold madG stG; rw [List.take_of_length_le hi4, List.take_length]
    rw [e]
    repeat' (first
      | (with_reducible first | refine W_seq ?_ | refine W_condT rfl ?_ | refine W_condF rfl ?_ | refine W_tf rfl (fun h => ?_) (fun h => ?_) | refine W_block ?_ | refine endQ_ret ?_ | refine endQ_normal ?_)
      | ((with_reducible first | refine hK _ ?_ | refine hK _ _ ?_); clear hK K)
      | ((first | (with_reducible first | refine ops_cons (fun K hK => ?_) | refine opsd_cons (fun K hK => ?_) | refine ops_nil ?_ | refine fit_i64 (by omega) ?_ | refine fit_any ?_) | ((with_reducible refine opsd_nil ?_); refine And.intro (by kernel_rfl) ?_) | with_reducible refine callV_snap ?_ | (with_reducible first | refine idx_map (by omega) ?_ | refine W_reg lv38FlAR ?_ | refine W_drw lv38FlAR (by kernel_rfl) ?_ | refine W_skip ?_ | refine W_exit ?_ | refine W_ret ?_ | refine end_at0 ?_) | (with_reducible refine And.intro (fun h => ?_) (fun h => ?_)) | (with_reducible refine And.intro (by omega) ?_)); (try simp only [go_sem, seval, reduceCtorEq, hki, lv38FlAR, Try.ntmps38, Try.results38, madS]))
      | fail)
theorem numN_idem {m : Nat} (h : m < 16777216) : numN (m : Int) = m := by unfold numN; omega
abbrev stpAS : Spec := stpS
abbrev stpBS : Spec := stpS
abbrev stpCS : Spec := stpS
abbrev stpDS : Spec := stpS
theorem stpA_ok : Ok Try.prog 40 stpAS := stp_ok
theorem stpB_ok : Ok Try.prog 40 stpBS := stp_ok
theorem stpC_ok : Ok Try.prog 40 stpCS := stp_ok
theorem stpD_ok : Ok Try.prog 40 stpDS := stp_ok
def osS : Spec := { al := true, rel := fun args ins res outs => ∃ (l : List Int) (a b : Int), args = [dI l, iv a, iv b] ∧ ins = [] ∧ res = bv true ∧ outs = [] }
set_option maxHeartbeats 8000000 in
theorem os_ok : Ok Try.prog 8 osS := by
  refine fn_ok osS Try.func8 rfl rfl ?_
  rintro args ins res outs ⟨l, a, b, rfl, rfl, rfl, rfl⟩
  refine ⟨by simp [Try.ntmps8], fun w0 V Bo mu0 => ?_⟩
  have hv := mad_vl l
  have M0 := mad_at l
  have hm := m_num a
  have hm2 := m_num b
  have hml := num_lt a
  have hml2 := num_lt b
  generalize numN a = m at *
  generalize numN b = m2 at *
  generalize madG l = S at *
  have mad_at : madS.rel [dI l] [] (.tup [fm S.1 S.2.1 S.2.2, bv true]) [] := M0
  by_cases r1 : m % 8 = 3
  · have q1 : (m : Int) % 8 = 3 := by omega
    repeat' (first
      | (with_reducible first | refine W_seq ?_ | refine W_condT rfl ?_ | refine W_condF rfl ?_ | refine W_tf rfl (fun h => ?_) (fun h => ?_) | refine endQ_ret ?_ | refine endQ_normal ?_)
      | ((with_reducible first | refine hK _ ?_ | refine hK _ _ ?_); clear hK K)
      | ((first | (with_reducible first | refine ops_cons (fun K hK => ?_) | refine ops_nil ?_ | refine fit_i64 (by omega) ?_ | refine fit_any ?_ | refine quo_nn (by omega) ?_ | refine rem_nn (by omega) ?_ | refine quo_any ?_ | refine rem_any ?_) | with_reducible refine callV_snap ?_ | ((with_reducible refine call_go knoS kno_ok ?_); refine ⟨(by first | exact alOk_nil _ | exact alOk_f rfl), _, _, kno_at , ?_⟩) | ((with_reducible refine call_go madS mad_ok ?_); refine ⟨(by first | exact alOk_nil _ | exact alOk_f rfl), _, _, mad_at , ?_⟩) | ((with_reducible refine call_go ModS Mod_ok ?_); refine ⟨(by first | exact alOk_nil _ | exact alOk_f rfl), _, _, Mod_at a 16777216 (by decide) (by decide), ?_⟩) | ((with_reducible refine call_go ModS Mod_ok ?_); refine ⟨(by first | exact alOk_nil _ | exact alOk_f rfl), _, _, Mod_at b 16777216 (by decide) (by decide), ?_⟩) | (with_reducible first | refine W_reg lv8FlAR ?_ | refine W_skip ?_ | refine W_ret ?_ | refine end_at0 ?_) | (with_reducible refine And.intro (fun h => ?_) (fun h => ?_)) | (with_reducible refine And.intro (by omega) ?_)); (try simp only [go_sem, seval, reduceCtorEq, hm, hm2, q1, lv8FlAR, Try.ntmps8, Try.results8, osS]))
      | fail)
  have q1 : ¬ (m : Int) % 8 = 3 := by omega
  by_cases r2 : m2 % 8 = 3
  · have q2 : (m2 : Int) % 8 = 3 := by omega
    repeat' (first
      | (with_reducible first | refine W_seq ?_ | refine W_condT rfl ?_ | refine W_condF rfl ?_ | refine W_tf rfl (fun h => ?_) (fun h => ?_) | refine endQ_ret ?_ | refine endQ_normal ?_)
      | ((with_reducible first | refine hK _ ?_ | refine hK _ _ ?_); clear hK K)
      | ((first | (with_reducible first | refine ops_cons (fun K hK => ?_) | refine ops_nil ?_ | refine fit_i64 (by omega) ?_ | refine fit_any ?_ | refine quo_nn (by omega) ?_ | refine rem_nn (by omega) ?_ | refine quo_any ?_ | refine rem_any ?_) | with_reducible refine callV_snap ?_ | ((with_reducible refine call_go knoS kno_ok ?_); refine ⟨(by first | exact alOk_nil _ | exact alOk_f rfl), _, _, kno_at , ?_⟩) | ((with_reducible refine call_go madS mad_ok ?_); refine ⟨(by first | exact alOk_nil _ | exact alOk_f rfl), _, _, mad_at , ?_⟩) | ((with_reducible refine call_go ModS Mod_ok ?_); refine ⟨(by first | exact alOk_nil _ | exact alOk_f rfl), _, _, Mod_at a 16777216 (by decide) (by decide), ?_⟩) | ((with_reducible refine call_go ModS Mod_ok ?_); refine ⟨(by first | exact alOk_nil _ | exact alOk_f rfl), _, _, Mod_at b 16777216 (by decide) (by decide), ?_⟩) | (with_reducible first | refine W_reg lv8FlAR ?_ | refine W_skip ?_ | refine W_ret ?_ | refine end_at0 ?_) | (with_reducible refine And.intro (fun h => ?_) (fun h => ?_)) | (with_reducible refine And.intro (by omega) ?_)); (try simp only [go_sem, seval, reduceCtorEq, hm, hm2, q1, q2, lv8FlAR, Try.ntmps8, Try.results8, osS]))
      | fail)
  have q2 : ¬ (m2 : Int) % 8 = 3 := by omega
  by_cases r3 : m / 8 % 3 = m2 / 8 % 3
  · have q3 : (m : Int) / 8 % 3 = (m2 : Int) / 8 % 3 := by omega
    repeat' (first
      | (with_reducible first | refine W_seq ?_ | refine W_condT rfl ?_ | refine W_condF rfl ?_ | refine W_tf rfl (fun h => ?_) (fun h => ?_) | refine endQ_ret ?_ | refine endQ_normal ?_)
      | ((with_reducible first | refine hK _ ?_ | refine hK _ _ ?_); clear hK K)
      | ((first | (with_reducible first | refine ops_cons (fun K hK => ?_) | refine ops_nil ?_ | refine fit_i64 (by omega) ?_ | refine fit_any ?_ | refine quo_nn (by omega) ?_ | refine rem_nn (by omega) ?_ | refine quo_any ?_ | refine rem_any ?_) | with_reducible refine callV_snap ?_ | ((with_reducible refine call_go knoS kno_ok ?_); refine ⟨(by first | exact alOk_nil _ | exact alOk_f rfl), _, _, kno_at , ?_⟩) | ((with_reducible refine call_go madS mad_ok ?_); refine ⟨(by first | exact alOk_nil _ | exact alOk_f rfl), _, _, mad_at , ?_⟩) | ((with_reducible refine call_go ModS Mod_ok ?_); refine ⟨(by first | exact alOk_nil _ | exact alOk_f rfl), _, _, Mod_at a 16777216 (by decide) (by decide), ?_⟩) | ((with_reducible refine call_go ModS Mod_ok ?_); refine ⟨(by first | exact alOk_nil _ | exact alOk_f rfl), _, _, Mod_at b 16777216 (by decide) (by decide), ?_⟩) | (with_reducible first | refine W_reg lv8FlAR ?_ | refine W_skip ?_ | refine W_ret ?_ | refine end_at0 ?_) | (with_reducible refine And.intro (fun h => ?_) (fun h => ?_)) | (with_reducible refine And.intro (by omega) ?_)); (try simp only [go_sem, seval, reduceCtorEq, hm, hm2, q1, q2, q3, lv8FlAR, Try.ntmps8, Try.results8, osS]))
      | fail)
  have q3 : ¬ (m : Int) / 8 % 3 = (m2 : Int) / 8 % 3 := by omega
  have hc := aft_comm (op_loc r1) (op_loc r2) (by omega) (by omega) r3 hv
  have v1 := aft_vl (m := m) hv
  have v2 := aft_vl (m := m2) hv
  have v3 := aft_vl (m := m2) v1
  have A0 := stp_at S (m : Int) hv
  have C0 := stp_at S (m2 : Int) hv
  have B0 := stp_at _ (m2 : Int) v1
  have D0 := stp_at _ (m : Int) v2
  rw [numN_idem hml] at A0 D0
  rw [numN_idem hml2] at B0 C0
  rw [← hc] at D0
  have l3 := vl_len v3
  have la3 := v3.la
  have lm3 := v3.lm
  generalize aft (opOf m2) (aft (opOf m) S) = T at *
  generalize aft (opOf m) S = S1 at *
  generalize aft (opOf m2) S = S2 at *
  have stpA_at : stpAS.rel [fm S.1 S.2.1 S.2.2, iv (m : Int)] [] (.tup [fm S1.1 S1.2.1 S1.2.2, bv true]) [] := A0
  have stpB_at : stpBS.rel [fm S1.1 S1.2.1 S1.2.2, iv (m2 : Int)] [] (.tup [fm T.1 T.2.1 T.2.2, bv true]) [] := B0
  have stpC_at : stpCS.rel [fm S.1 S.2.1 S.2.2, iv (m2 : Int)] [] (.tup [fm S2.1 S2.2.1 S2.2.2, bv true]) [] := C0
  have stpD_at : stpDS.rel [fm S2.1 S2.2.1 S2.2.2, iv (m : Int)] [] (.tup [fm T.1 T.2.1 T.2.2, bv true]) [] := D0
  repeat' (first
    | (with_reducible first | refine W_seq ?_ | refine W_condT rfl ?_ | refine W_condF rfl ?_ | refine W_tf rfl (fun h => ?_) (fun h => ?_) | refine endQ_ret ?_ | refine endQ_normal ?_)
    | ((with_reducible first | refine hK _ ?_ | refine hK _ _ ?_); clear hK K)
    | ((first | (with_reducible first | refine ops_cons (fun K hK => ?_) | refine ops_nil ?_ | refine fit_i64 (by omega) ?_ | refine fit_any ?_ | refine quo_nn (by omega) ?_ | refine rem_nn (by omega) ?_ | refine quo_any ?_ | refine rem_any ?_) | with_reducible refine callV_snap ?_ | ((with_reducible refine call_go knoS kno_ok ?_); refine ⟨(by first | exact alOk_nil _ | exact alOk_f rfl), _, _, kno_at , ?_⟩) | ((with_reducible refine call_go madS mad_ok ?_); refine ⟨(by first | exact alOk_nil _ | exact alOk_f rfl), _, _, mad_at , ?_⟩) | ((with_reducible refine call_go ModS Mod_ok ?_); refine ⟨(by first | exact alOk_nil _ | exact alOk_f rfl), _, _, Mod_at a 16777216 (by decide) (by decide), ?_⟩) | ((with_reducible refine call_go ModS Mod_ok ?_); refine ⟨(by first | exact alOk_nil _ | exact alOk_f rfl), _, _, Mod_at b 16777216 (by decide) (by decide), ?_⟩) | ((with_reducible refine call_go stpAS stpA_ok ?_); refine ⟨(by first | exact alOk_nil _ | exact alOk_f rfl), _, _, stpA_at , ?_⟩) | ((with_reducible refine call_go stpBS stpB_ok ?_); refine ⟨(by first | exact alOk_nil _ | exact alOk_f rfl), _, _, stpB_at , ?_⟩) | ((with_reducible refine call_go stpCS stpC_ok ?_); refine ⟨(by first | exact alOk_nil _ | exact alOk_f rfl), _, _, stpC_at , ?_⟩) | ((with_reducible refine call_go stpDS stpD_ok ?_); refine ⟨(by first | exact alOk_nil _ | exact alOk_f rfl), _, _, stpD_at , ?_⟩) | ((with_reducible refine call_go SmfRS SmfR_ok ?_); refine ⟨(by first | exact alOk_nil _ | exact alOk_f rfl), _, _, SmfR_at T.1 T.2.1 T.2.2 (by omega) (by omega) (by omega), ?_⟩) | (with_reducible first | refine W_reg lv8FlAR ?_ | refine W_skip ?_ | refine W_ret ?_ | refine end_at0 ?_) | (with_reducible refine And.intro (fun h => ?_) (fun h => ?_)) | (with_reducible refine And.intro (by omega) ?_)); (try simp only [go_sem, seval, reduceCtorEq, hm, hm2, q1, q2, q3, lv8FlAR, Try.ntmps8, Try.results8, osS]))
    | fail)
end Go.Proofs.Ytdfolpfibhfmlaa
