/- A flat memory: FlatWrite, by the engine. -/
import Derived.Test.YtdfolpfibhfmlaaFlAR
import Derived.Test.YtdfolpfibhfmlaaFlAN
namespace Go.Proofs.Ytdfolpfibhfmlaa
open Go.RowKit
set_option maxRecDepth 100000
set_option linter.unusedSimpArgs false
set_option linter.unusedVariables false

abbrev lv7FlAT : List (Nat × List Nat) := [(0, [0, 1, 2]), (1, [0, 1, 2, 7]), (2, [1, 2, 7, 8, 9]), (3, [1, 2, 7, 8, 9]), (4, [1, 2, 7, 8, 9, 10, 11]), (5, [1, 2, 7, 8, 9, 10, 11, 44]), (6, [6]), (7, [1, 2, 7, 8, 10, 12]), (8, [1, 2, 7, 8, 10, 12, 58]), (9, [1, 2, 7, 8, 10, 12]), (10, [1, 2, 7, 8, 10, 12, 13, 14]), (11, [1, 2, 7, 8, 10, 12, 13, 14, 15, 16]), (12, [1, 2, 7, 8, 10, 12, 109]), (13, [6]), (14, [6])]
theorem wr_err {s : FSt} (h : Vl s) {k g w : Nat} (hk : k < 8) (hg : g < 64) (hw : w < 8) (v : Nat) : (oWr k (g : Int) (w : Int) v s).2 = 0 ∨ (oWr k (g : Int) (w : Int) v s).2 = 11 ∨ (oWr k (g : Int) (w : Int) v s).2 = 12 := by
  rw [oWr_eq h hk]
  split
  · rw [if_neg (fun hh => hh ⟨⟨by omega, by omega⟩, ⟨by omega, by omega⟩⟩)]
    split <;> simp
  · simp
abbrev RdAS : Spec := RdS
abbrev RdBS : Spec := RdS
theorem RdA_ok : Ok Try.prog 16 RdAS := Rd_ok
theorem RdB_ok : Ok Try.prog 16 RdBS := Rd_ok
def fwS : Spec := { al := true, rel := fun args ins res outs => ∃ (l : List Int) (n : Int) (v : Nat), args = [dI l, iv n, wv (v : Int)] ∧ ins = [] ∧ res = bv true ∧ outs = [] }
set_option maxHeartbeats 8000000 in
theorem fw_ok : Ok Try.prog 7 fwS := by
  refine fn_ok fwS Try.func7 rfl rfl ?_
  rintro args ins res outs ⟨l, n, v, rfl, rfl, rfl, rfl⟩
  refine ⟨by simp [Try.ntmps7], fun w0 V Bo mu0 => ?_⟩
  have hV := mad_vl l
  have M0 := mad_at l
  generalize madG l = S at *
  have mad_at : madS.rel [dI l] [] (.tup [fm S.1 S.2.1 S.2.2, bv true]) [] := M0
  obtain ⟨m, hm, hm2⟩ : ∃ m : Nat, n % 192 = (m : Int) ∧ m < 192 := ⟨(n % 192).toNat, by omega, by omega⟩
  obtain ⟨k, hk⟩ : ∃ k, m / 64 = k := ⟨_, rfl⟩
  obtain ⟨g, hg⟩ : ∃ g, m / 8 % 8 = g := ⟨_, rfl⟩
  obtain ⟨w, hw⟩ : ∃ w, m % 8 = w := ⟨_, rfl⟩
  have w1 : (m : Int) / 64 = (k : Int) := by omega
  have w2 : (1 : Int) + (k : Int) = (k : Int) + 1 := by omega
  have w3 : (m : Int) / 8 % 8 = (g : Int) := by omega
  have w4 : (m : Int) % 8 = (w : Int) := by omega
  have hlen := vl_len hV
  have la := hV.la
  have lm := hV.lm
  have hu := hV.u
  have W0 := WrtF_at S.1 S.2.1 S.2.2 ((k : Int) + 1) (g : Int) (w : Int) v hu (by omega) (by omega) (by omega)
  have hE := wr_err hV (show k < 8 by omega) (show g < 64 by omega) (show w < 8 by omega) v
  have wl := wr_law hV (show k < 8 by omega) (show g < 64 by omega) (show w < 8 by omega) (v := v)
  have hT := (oWr_loc (show k < 8 by omega) (g : Int) (w : Int) v).val hV
  have hR : oWr k (g : Int) (w : Int) v S = wrtF S.1 S.2.1 S.2.2 ((k : Int) + 1) (g : Int) (w : Int) v := rfl
  rw [hR] at hE wl hT
  generalize wrtF S.1 S.2.1 S.2.2 ((k : Int) + 1) (g : Int) (w : Int) v = R at *
  obtain ⟨T, e⟩ := R
  dsimp only at hE wl hT
  have WrtF_at : WrtFS.rel [fm S.1 S.2.1 S.2.2, iv ((k : Int) + 1), iv (g : Int), iv (w : Int), wv (v : Int)] [] (.tup [fm T.1 T.2.1 T.2.2, iv e]) [] := W0
  rcases hE with rfl | rfl | rfl
  case inr.inl =>
    repeat' (first
      | (with_reducible first | refine W_seq ?_ | refine W_condT rfl ?_ | refine W_condF rfl ?_ | refine W_tf rfl (fun h => ?_) (fun h => ?_) | refine W_block ?_ | refine endQ_ret ?_ | refine endQ_normal ?_)
      | ((with_reducible first | refine hK _ ?_ | refine hK _ _ ?_); clear hK K)
      | ((first | (with_reducible first | refine ops_cons (fun K hK => ?_) | refine ops_nil ?_ | refine fit_i64 (by omega) ?_ | refine fit_any ?_ | refine quo_nn (by omega) ?_ | refine rem_nn (by omega) ?_ | refine quo_any ?_ | refine rem_any ?_) | with_reducible refine callV_snap ?_ | ((with_reducible refine call_go knoS kno_ok ?_); refine ⟨(by first | exact alOk_nil _ | exact alOk_f rfl), _, _, kno_at , ?_⟩) | ((with_reducible refine call_go madS mad_ok ?_); refine ⟨(by first | exact alOk_nil _ | exact alOk_f rfl), _, _, mad_at , ?_⟩) | ((with_reducible refine call_go ModS Mod_ok ?_); refine ⟨(by first | exact alOk_nil _ | exact alOk_f rfl), _, _, Mod_at n 192 (by decide) (by decide), ?_⟩) | ((with_reducible refine call_go WrtFS WrtF_ok ?_); refine ⟨(by first | exact alOk_nil _ | exact alOk_f rfl), _, _, WrtF_at , ?_⟩) | (with_reducible first | refine W_reg lv7FlAT ?_ | refine W_skip ?_ | refine W_exit ?_ | refine W_ret ?_ | refine end_at0 ?_) | (with_reducible refine And.intro (fun h => ?_) (fun h => ?_)) | (with_reducible refine And.intro (by omega) ?_)); (try simp only [go_sem, seval, reduceCtorEq, hm, w1, w2, w3, w4, lv7FlAT, Try.ntmps7, Try.results7, fwS]))
      | fail)
  case inr.inr =>
    repeat' (first
      | (with_reducible first | refine W_seq ?_ | refine W_condT rfl ?_ | refine W_condF rfl ?_ | refine W_tf rfl (fun h => ?_) (fun h => ?_) | refine W_block ?_ | refine endQ_ret ?_ | refine endQ_normal ?_)
      | ((with_reducible first | refine hK _ ?_ | refine hK _ _ ?_); clear hK K)
      | ((first | (with_reducible first | refine ops_cons (fun K hK => ?_) | refine ops_nil ?_ | refine fit_i64 (by omega) ?_ | refine fit_any ?_ | refine quo_nn (by omega) ?_ | refine rem_nn (by omega) ?_ | refine quo_any ?_ | refine rem_any ?_) | with_reducible refine callV_snap ?_ | ((with_reducible refine call_go knoS kno_ok ?_); refine ⟨(by first | exact alOk_nil _ | exact alOk_f rfl), _, _, kno_at , ?_⟩) | ((with_reducible refine call_go madS mad_ok ?_); refine ⟨(by first | exact alOk_nil _ | exact alOk_f rfl), _, _, mad_at , ?_⟩) | ((with_reducible refine call_go ModS Mod_ok ?_); refine ⟨(by first | exact alOk_nil _ | exact alOk_f rfl), _, _, Mod_at n 192 (by decide) (by decide), ?_⟩) | ((with_reducible refine call_go WrtFS WrtF_ok ?_); refine ⟨(by first | exact alOk_nil _ | exact alOk_f rfl), _, _, WrtF_at , ?_⟩) | (with_reducible first | refine W_reg lv7FlAT ?_ | refine W_skip ?_ | refine W_exit ?_ | refine W_ret ?_ | refine end_at0 ?_) | (with_reducible refine And.intro (fun h => ?_) (fun h => ?_)) | (with_reducible refine And.intro (by omega) ?_)); (try simp only [go_sem, seval, reduceCtorEq, hm, w1, w2, w3, w4, lv7FlAT, Try.ntmps7, Try.results7, fwS]))
      | fail)
  obtain ⟨⟨t1, t2⟩, l1, l2, l3⟩ := wl rfl
  have hVT := hT rfl
  have hlenT := vl_len hVT
  have laT := hVT.la
  have lmT := hVT.lm
  repeat' (first
    | (with_reducible first | refine W_seq ?_ | refine W_condT rfl ?_ | refine W_condF rfl ?_ | refine W_tf rfl (fun h => ?_) (fun h => ?_) | refine W_block ?_ | refine endQ_ret ?_ | refine endQ_normal ?_)
    | ((with_reducible first | refine hK _ ?_ | refine hK _ _ ?_); clear hK K)
    | ((first | (with_reducible first | refine ops_cons (fun K hK => ?_) | refine ops_nil ?_ | refine fit_i64 (by omega) ?_ | refine fit_any ?_ | refine quo_nn (by omega) ?_ | refine rem_nn (by omega) ?_ | refine quo_any ?_ | refine rem_any ?_) | with_reducible refine callV_snap ?_ | ((with_reducible refine call_go knoS kno_ok ?_); refine ⟨(by first | exact alOk_nil _ | exact alOk_f rfl), _, _, kno_at , ?_⟩) | ((with_reducible refine call_go madS mad_ok ?_); refine ⟨(by first | exact alOk_nil _ | exact alOk_f rfl), _, _, mad_at , ?_⟩) | ((with_reducible refine call_go ModS Mod_ok ?_); refine ⟨(by first | exact alOk_nil _ | exact alOk_f rfl), _, _, Mod_at n 192 (by decide) (by decide), ?_⟩) | ((with_reducible refine call_go WrtFS WrtF_ok ?_); refine ⟨(by first | exact alOk_nil _ | exact alOk_f rfl), _, _, WrtF_at , ?_⟩) | (with_reducible first | refine W_reg lv7FlAT ?_ | refine W_skip ?_ | refine W_exit ?_ | refine W_ret ?_ | refine end_at0 ?_) | (with_reducible refine And.intro (fun h => ?_) (fun h => ?_)) | (with_reducible refine And.intro (by omega) ?_)); (try simp only [go_sem, seval, reduceCtorEq, hm, w1, w2, w3, w4, lv7FlAT, Try.ntmps7, Try.results7, fwS]))
    | fail)
  refine W_loop (fun i : Nat => ⟨[(1, iv (m : Int)), (2, wv (v : Int)), (7, bv true), (8, .ptr 0 0), (10, .ptr 1 0), (12, iv (i : Int))], [some (.box 26 [.d (.sl (S.1.map encDB)), .d (.sl (S.2.1.map encU)), .d (.sl (S.2.2.map encCl))]), some (.box 26 [.d (.sl (T.1.map encDB)), .d (.sl (T.2.1.map encU)), .d (.sl (T.2.2.map encCl))])]⟩) (fun i => i ≤ 192) (fun i => 192 - i) 0 (Nat.zero_le _) [0, 1] ?_ ?_
  · simp [go_sem]
  intro i hi
  by_cases hlt : i < 192
  · have hki : (i : Int) < 192 := by omega
    obtain ⟨k', hk'⟩ : ∃ k', i / 64 = k' := ⟨_, rfl⟩
    obtain ⟨g', hg'⟩ : ∃ g', i / 8 % 8 = g' := ⟨_, rfl⟩
    obtain ⟨w', hw'⟩ : ∃ w', i % 8 = w' := ⟨_, rfl⟩
    have x1 : (i : Int) / 64 = (k' : Int) := by omega
    have x2 : (1 : Int) + (k' : Int) = (k' : Int) + 1 := by omega
    have x3 : (i : Int) / 8 % 8 = (g' : Int) := by omega
    have x4 : (i : Int) % 8 = (w' : Int) := by omega
    have A0 := Rd_at S.1 S.2.1 S.2.2 ((k' : Int) + 1) (g' : Int) (w' : Int) hV.u (by omega) (by omega) (by omega)
    have B0 := Rd_at T.1 T.2.1 T.2.2 ((k' : Int) + 1) (g' : Int) (w' : Int) hVT.u (by omega) (by omega) (by omega)
    rw [l2 k' g' w' (by omega) (by omega) (by omega)] at B0
    rw [Int.toNat_natCast] at A0 B0
    obtain ⟨y1, y2⟩ := l3 k' g' w' (by omega) (by omega) (by omega)
    by_cases him : i = m
    · have hkk : k' = k ∧ g' = g ∧ w' = w := ⟨by omega, by omega, by omega⟩
      have y3 := y1 hkk
      obtain ⟨rfl, rfl, rfl⟩ := hkk
      rw [y3, l1, if_pos rfl] at B0
      rw [l1, if_pos rfl] at A0
      generalize rdV S.2.2 ((k' : Int) + 1) (g' : Int) w' = xv at *
      have RdA_at : RdAS.rel [fm S.1 S.2.1 S.2.2, iv ((k' : Int) + 1), iv (g' : Int), iv (w' : Int)] [] (.tup [wv (xv : Int), iv 0]) [] := A0
      have RdB_at : RdBS.rel [fm T.1 T.2.1 T.2.2, iv ((k' : Int) + 1), iv (g' : Int), iv (w' : Int)] [] (.tup [wv (v : Int), iv 0]) [] := B0
      subst him
      repeat' (first
        | (with_reducible first | refine W_seq ?_ | refine W_condT rfl ?_ | refine W_condF rfl ?_ | refine W_tf rfl (fun h => ?_) (fun h => ?_) | refine W_block ?_ | refine endQ_ret ?_ | refine endQ_normal ?_)
        | ((with_reducible first | refine hK _ ?_ | refine hK _ _ ?_); clear hK K)
        | ((first | (with_reducible first | refine ops_cons (fun K hK => ?_) | refine ops_nil ?_ | refine fit_i64 (by omega) ?_ | refine fit_any ?_ | refine quo_nn (by omega) ?_ | refine rem_nn (by omega) ?_ | refine quo_any ?_ | refine rem_any ?_) | with_reducible refine callV_snap ?_ | ((with_reducible refine call_go RdAS RdA_ok ?_); refine ⟨(by first | exact alOk_nil _ | exact alOk_f rfl), _, _, RdA_at , ?_⟩) | ((with_reducible refine call_go RdBS RdB_ok ?_); refine ⟨(by first | exact alOk_nil _ | exact alOk_f rfl), _, _, RdB_at , ?_⟩) | (with_reducible first | refine W_reg lv7FlAT ?_ | refine W_skip ?_ | refine W_exit ?_ | refine W_ret ?_ | refine end_at0 ?_) | (with_reducible refine And.intro (fun h => ?_) (fun h => ?_)) | (with_reducible refine And.intro (by omega) ?_)); (try simp only [go_sem, seval, reduceCtorEq, hki, x1, x2, x3, x4, lv7FlAT, Try.ntmps7, Try.results7, fwS]))
        | fail)
      refine ⟨i + 1, [0, 1], by omega, by omega, ?_⟩
      simp [go_sem]
    · have hne : ¬ (i : Int) = (m : Int) := by omega
      have y3 := y2 (by omega)
      rw [y3] at B0
      generalize (if mapE S.1 S.2.1 S.2.2 ((k' : Int) + 1) (g' : Int) (w' : Int) = 0 then rdV S.2.2 ((k' : Int) + 1) (g' : Int) w' else 0) = xv at *
      generalize mapE S.1 S.2.1 S.2.2 ((k' : Int) + 1) (g' : Int) (w' : Int) = xe at *
      have RdA_at : RdAS.rel [fm S.1 S.2.1 S.2.2, iv ((k' : Int) + 1), iv (g' : Int), iv (w' : Int)] [] (.tup [wv (xv : Int), iv xe]) [] := A0
      have RdB_at : RdBS.rel [fm T.1 T.2.1 T.2.2, iv ((k' : Int) + 1), iv (g' : Int), iv (w' : Int)] [] (.tup [wv (xv : Int), iv xe]) [] := B0
      repeat' (first
        | (with_reducible first | refine W_seq ?_ | refine W_condT rfl ?_ | refine W_condF rfl ?_ | refine W_tf rfl (fun h => ?_) (fun h => ?_) | refine W_block ?_ | refine endQ_ret ?_ | refine endQ_normal ?_)
        | ((with_reducible first | refine hK _ ?_ | refine hK _ _ ?_); clear hK K)
        | ((first | (with_reducible first | refine ops_cons (fun K hK => ?_) | refine ops_nil ?_ | refine fit_i64 (by omega) ?_ | refine fit_any ?_ | refine quo_nn (by omega) ?_ | refine rem_nn (by omega) ?_ | refine quo_any ?_ | refine rem_any ?_) | with_reducible refine callV_snap ?_ | ((with_reducible refine call_go RdAS RdA_ok ?_); refine ⟨(by first | exact alOk_nil _ | exact alOk_f rfl), _, _, RdA_at , ?_⟩) | ((with_reducible refine call_go RdBS RdB_ok ?_); refine ⟨(by first | exact alOk_nil _ | exact alOk_f rfl), _, _, RdB_at , ?_⟩) | (with_reducible first | refine W_reg lv7FlAT ?_ | refine W_skip ?_ | refine W_exit ?_ | refine W_ret ?_ | refine end_at0 ?_) | (with_reducible refine And.intro (fun h => ?_) (fun h => ?_)) | (with_reducible refine And.intro (by omega) ?_)); (try simp only [go_sem, seval, reduceCtorEq, hki, x1, x2, x3, x4, hne, lv7FlAT, Try.ntmps7, Try.results7, fwS]))
        | fail)
      refine ⟨i + 1, [0, 1], by omega, by omega, ?_⟩
      simp [go_sem]
  · have hki : ¬ (i : Int) < 192 := by omega
    repeat' (first
      | (with_reducible first | refine W_seq ?_ | refine W_condT rfl ?_ | refine W_condF rfl ?_ | refine W_tf rfl (fun h => ?_) (fun h => ?_) | refine W_block ?_ | refine endQ_ret ?_ | refine endQ_normal ?_)
      | ((with_reducible first | refine hK _ ?_ | refine hK _ _ ?_); clear hK K)
      | ((first | (with_reducible first | refine ops_cons (fun K hK => ?_) | refine ops_nil ?_ | refine fit_i64 (by omega) ?_ | refine fit_any ?_ | refine quo_nn (by omega) ?_ | refine rem_nn (by omega) ?_ | refine quo_any ?_ | refine rem_any ?_) | with_reducible refine callV_snap ?_ | (with_reducible first | refine W_reg lv7FlAT ?_ | refine W_skip ?_ | refine W_exit ?_ | refine W_ret ?_ | refine end_at0 ?_) | (with_reducible refine And.intro (fun h => ?_) (fun h => ?_)) | (with_reducible refine And.intro (by omega) ?_)); (try simp only [go_sem, seval, reduceCtorEq, hki, lv7FlAT, Try.ntmps7, Try.results7, fwS]))
      | fail)
end Go.Proofs.Ytdfolpfibhfmlaa
