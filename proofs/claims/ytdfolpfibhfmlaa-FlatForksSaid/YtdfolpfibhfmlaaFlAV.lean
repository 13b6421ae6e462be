/- A flat memory: FlatForks, by the engine. -/
import Derived.Test.YtdfolpfibhfmlaaFlAR
import Derived.Test.YtdfolpfibhfmlaaFlAN
namespace Go.Proofs.Ytdfolpfibhfmlaa
open Go.RowKit
set_option maxRecDepth 100000
set_option linter.unusedSimpArgs false
set_option linter.unusedVariables false

abbrev lv9FlAV : List (Nat × List Nat) := [(0, [0, 1, 2]), (1, [0, 1, 2, 7]), (2, [1, 2, 7, 8, 9]), (3, [1, 2, 7, 8, 9]), (4, [1, 2, 7, 8, 9, 10, 11]), (5, [1, 2, 7, 8, 9, 10, 11, 45]), (6, [6]), (7, [1, 2, 7, 8, 10, 12, 13]), (8, [1, 2, 7, 8, 10, 64]), (9, [6]), (10, [1, 2, 7, 8, 10, 14, 15]), (11, [1, 2, 7, 8, 10, 14, 15, 76]), (12, [1, 2, 7, 8, 10, 14, 15, 16, 17]), (13, [7, 8, 10, 15, 107]), (14, [6]), (15, [7, 8, 15, 18, 19]), (16, [7, 8, 15, 18, 19, 20, 21]), (17, [7, 8, 15, 18, 19, 21, 22, 23]), (18, [7, 15, 22, 138]), (19, [6]), (20, [7, 15, 22, 24]), (21, [7, 15, 22, 24, 140]), (22, [7, 15, 22, 24]), (23, [7, 15, 22, 24, 25, 26]), (24, [7, 15, 22, 24, 155]), (25, [6]), (26, [6])]
theorem wr_err2 {s : FSt} (h : Vl s) {k g w : Nat} (hk : k < 8) (hg : g < 64) (hw : w < 8) (v : Nat) (ha : s.1[k]?.getD false = true) : (oWr k (g : Int) (w : Int) v s).2 = 0 ∨ (oWr k (g : Int) (w : Int) v s).2 = 12 := by
  rw [oWr_eq h hk, if_pos ha, if_neg (fun hh => hh ⟨⟨by omega, by omega⟩, ⟨by omega, by omega⟩⟩)]
  split <;> simp
theorem fk_reads {s : FSt} (h : Vl s) (a0 : s.1[0]?.getD false = true) (a4 : s.1[4]?.getD false = true) (m : s.2.1[4]?.getD 0 = s.2.1[0]?.getD 0) {g w v : Nat} (hg : g < 64) (hw : w < 8) (h0 : (oWr 4 (g : Int) (w : Int) v s).2 = 0) :
    mapE s.1 s.2.1 s.2.2 1 g w = 0 ∧ rdsB (oWr 4 (g : Int) (w : Int) v s).1.1 (oWr 4 (g : Int) (w : Int) v s).1.2.1 (oWr 4 (g : Int) (w : Int) v s).1.2.2 1 g w (rdV s.2.2 1 g w) = true ∧ rdsB (oWr 4 (g : Int) (w : Int) v s).1.1 (oWr 4 (g : Int) (w : Int) v s).1.2.1 (oWr 4 (g : Int) (w : Int) v s).1.2.2 5 g w v = true := by
  obtain ⟨_, l1, l2, l3⟩ := wr_law h (k := 4) (by decide) hg hw h0
  have e1 := mapE_eq h (k := 4) (by decide) (g := (g : Int)) (w := (w : Int)) ⟨by omega, by omega⟩ ⟨by omega, by omega⟩
  have e2 := mapE_eq h (k := 0) (by decide) (g := (g : Int)) (w := (w : Int)) ⟨by omega, by omega⟩ ⟨by omega, by omega⟩
  rw [if_pos a4, m] at e1
  rw [if_pos a0, ← e1] at e2
  have e3 : mapE s.1 s.2.1 s.2.2 1 g w = 0 := e2.trans l1
  refine ⟨e3, decide_eq_true ⟨(l2 0 g w (by decide) hg hw).trans e3, ?_⟩, decide_eq_true ⟨(l2 4 g w (by decide) hg hw).trans l1, ?_⟩⟩
  · rw [Int.toNat_natCast]
    exact (l3 0 g w (by decide) hg hw).2 (fun hh => absurd hh.1 (by decide))
  · rw [Int.toNat_natCast]
    exact (l3 4 g w (by decide) hg hw).1 ⟨rfl, rfl, rfl⟩
abbrev rdsAS : Spec := rdsS
abbrev rdsCS : Spec := rdsS
theorem rdsA_ok : Ok Try.prog 29 rdsAS := rds_ok
theorem rdsC_ok : Ok Try.prog 29 rdsCS := rds_ok
theorem Vl.sz {s : FSt} (h : Vl s) : s.1.length ≤ 1000000 ∧ s.2.1.length ≤ 1000000 ∧ s.2.2.length ≤ 400000 ∧ s.2.2.length ≤ 900000 ∧ s.2.2.length ≤ 1000000 := by
  have := vl_len h
  have := h.la
  have := h.lm
  exact ⟨by omega, by omega, by omega, by omega, by omega⟩
def ffS : Spec := { al := true, rel := fun args ins res outs => ∃ (l : List Int) (n : Int) (v : Nat), args = [dI l, iv n, wv (v : Int)] ∧ ins = [] ∧ res = bv true ∧ outs = [] }
set_option maxHeartbeats 16000000 in
theorem ff_ok : Ok Try.prog 9 ffS := by
  refine fn_ok ffS Try.func9 rfl rfl ?_
  rintro args ins res outs ⟨l, n, v, rfl, rfl, rfl, rfl⟩
  refine ⟨by simp [Try.ntmps9], fun w0 V Bo mu0 => ?_⟩
  have hV := mad_vl l
  have hL := mad_low l
  have M0 := mad_at l
  generalize madG l = S at *
  have mad_at : madS.rel [dI l] [] (.tup [fm S.1 S.2.1 S.2.2, bv true]) [] := M0
  obtain ⟨m, hm, hm2⟩ : ∃ m : Nat, n % 64 = (m : Int) ∧ m < 64 := ⟨(n % 64).toNat, by omega, by omega⟩
  obtain ⟨g, hg⟩ : ∃ g, m / 8 = g := ⟨_, rfl⟩
  obtain ⟨w, hw⟩ : ∃ w, m % 8 = w := ⟨_, rfl⟩
  have w1 : (m : Int) / 8 = (g : Int) := by omega
  have w2 : (m : Int) % 8 = (w : Int) := by omega
  obtain ⟨z1, z2, z3, z4, z5⟩ := hV.sz
  have F0 := FrkF_at S.1 S.2.1 S.2.2 1 5 hV.u z1 z2 z3
  have hE := fk_err hV hL
  have hsame := fk_same hV hL
  have hback := fk_back hV hL
  have hval := oFk_val hV (k := 0) (j := 4) (by decide) (by decide)
  have hR : oFk 0 4 S = frkF S.1 S.2.1 S.2.2 1 5 := rfl
  rw [hR] at hE hsame hback hval
  generalize frkF S.1 S.2.1 S.2.2 1 5 = R at *
  obtain ⟨T, e⟩ := R
  dsimp only at hE hsame hback hval
  have FrkF_at : FrkFS.rel [fm S.1 S.2.1 S.2.2, iv 1, iv 5] [] (.tup [fm T.1 T.2.1 T.2.2, iv e]) [] := F0
  rcases hE with rfl | rfl
  case inr =>
    repeat' (first
      | (with_reducible first | refine W_seq ?_ | refine W_condT rfl ?_ | refine W_condF rfl ?_ | refine W_tf rfl (fun h => ?_) (fun h => ?_) | refine W_block ?_ | refine endQ_ret ?_ | refine endQ_normal ?_)
      | ((with_reducible first | refine hK _ ?_ | refine hK _ _ ?_); clear hK K)
      | ((first | (with_reducible first | refine ops_cons (fun K hK => ?_) | refine ops_nil ?_ | refine fit_i64 (by omega) ?_ | refine fit_any ?_ | refine quo_nn (by omega) ?_ | refine rem_nn (by omega) ?_ | refine quo_any ?_ | refine rem_any ?_) | with_reducible refine callV_snap ?_ | ((with_reducible refine call_go knoS kno_ok ?_); refine ⟨(by first | exact alOk_nil _ | exact alOk_f rfl), _, _, kno_at , ?_⟩) | ((with_reducible refine call_go madS mad_ok ?_); refine ⟨(by first | exact alOk_nil _ | exact alOk_f rfl), _, _, mad_at , ?_⟩) | ((with_reducible refine call_go ModS Mod_ok ?_); refine ⟨(by first | exact alOk_nil _ | exact alOk_f rfl), _, _, Mod_at n 64 (by decide) (by decide), ?_⟩) | ((with_reducible refine call_go FrkFS FrkF_ok ?_); refine ⟨(by first | exact alOk_nil _ | exact alOk_f rfl), _, _, FrkF_at , ?_⟩) | (with_reducible first | refine W_reg lv9FlAV ?_ | refine W_skip ?_ | refine W_exit ?_ | refine W_ret ?_ | refine end_at0 ?_) | (with_reducible refine And.intro (fun h => ?_) (fun h => ?_)) | (with_reducible refine And.intro (by omega) ?_)); (try simp only [go_sem, seval, reduceCtorEq, hm, w1, w2, lv9FlAV, Try.ntmps9, Try.results9, ffS]))
      | fail)
  obtain ⟨s1, s2, s3, s4, s5⟩ := hsame rfl
  have hb := hback rfl
  have hT := hval rfl
  obtain ⟨y1, y2, y3, y4, y5⟩ := hT.sz
  have S0 := Sme_at T.1 T.2.1 T.2.2 1 5 hT.u y1 y2 y4
  rw [s1, if_pos rfl, s2] at S0
  have Sme_at : SmeS.rel [fm T.1 T.2.1 T.2.2, iv 1, iv 5] [] (.tup [bv true, iv 0]) [] := S0
  have E0 := ExtF_at T.1 T.2.1 T.2.2 5 hT.u y1 y2 y3
  have hbF : extF T.1 T.2.1 T.2.2 5 = (S, 0) := hb
  rw [hbF] at E0
  have ExtF_at : ExtFS.rel [fm T.1 T.2.1 T.2.2, iv 5] [] (.tup [fm S.1 S.2.1 S.2.2, iv 0]) [] := E0
  have hnew := fk_new hV hL
  have P0 := SpnF_at S.1 S.2.1 S.2.2 5 hV.u z1 z2 z3
  have hR2 : oSp 4 S = spnF S.1 S.2.1 S.2.2 5 := rfl
  rw [hR2] at hnew
  generalize spnF S.1 S.2.1 S.2.2 5 = R2 at *
  obtain ⟨S2, e2⟩ := R2
  dsimp only at hnew
  obtain ⟨rfl, n2, n3, n4, n5⟩ := hnew
  have SpnF_at : SpnFS.rel [fm S.1 S.2.1 S.2.2, iv 5] [] (.tup [fm S2.1 S2.2.1 S2.2.2, iv 0]) [] := P0
  obtain ⟨x1, x2, x3, x4, x5⟩ := n3.sz
  have Q0 := MapF_at S2.1 S2.2.1 S2.2.2 5 0 63 n3.u x1 x2 x3
  have hR3 : oMp 4 0 63 S2 = mapF S2.1 S2.2.1 S2.2.2 5 0 63 := rfl
  rw [hR3] at n2 n4 n5
  generalize mapF S2.1 S2.2.1 S2.2.2 5 0 63 = R3 at *
  obtain ⟨S3, e3⟩ := R3
  dsimp only at n2 n4 n5
  subst n2
  have MapF_at : MapFS.rel [fm S2.1 S2.2.1 S2.2.2, iv 5, iv 0, iv 63] [] (.tup [fm S3.1 S3.2.1 S3.2.2, iv 0]) [] := Q0
  obtain ⟨v1, v2, v3, v4, v5⟩ := n4.sz
  have W0 := WrtF_at T.1 T.2.1 T.2.2 5 (g : Int) (w : Int) v hT.u y1 y2 y3
  have hE2 := wr_err2 hT (k := 4) (by decide) (show g < 64 by omega) (show w < 8 by omega) v s4
  have hrd := fk_reads hT s3 s4 s5 (show g < 64 by omega) (show w < 8 by omega) (v := v)
  have hUv := (oWr_loc (k := 4) (by decide) (g : Int) (w : Int) v).val hT
  have hR4 : oWr 4 (g : Int) (w : Int) v T = wrtF T.1 T.2.1 T.2.2 5 (g : Int) (w : Int) v := rfl
  rw [hR4] at hE2 hrd hUv
  generalize wrtF T.1 T.2.1 T.2.2 5 (g : Int) (w : Int) v = R4 at *
  obtain ⟨U, e4⟩ := R4
  dsimp only at hE2 hrd hUv
  have WrtF_at : WrtFS.rel [fm T.1 T.2.1 T.2.2, iv 5, iv (g : Int), iv (w : Int), wv (v : Int)] [] (.tup [fm U.1 U.2.1 U.2.2, iv e4]) [] := W0
  rcases hE2 with rfl | rfl
  · obtain ⟨r1, r2, r3⟩ := hrd rfl
    have hU := hUv rfl
    obtain ⟨u1, u2, u3, u4, u5⟩ := hU.sz
    have A0 := Rd_at T.1 T.2.1 T.2.2 1 (g : Int) (w : Int) hT.u y1 y2 y5
    rw [r1, if_pos rfl, Int.toNat_natCast] at A0
    have B0 := rds_at U.1 U.2.1 U.2.2 1 (g : Int) (w : Int) (rdV T.2.2 1 g w) hU.u u1 u2 u5
    rw [r2] at B0
    have C0 := rds_at U.1 U.2.1 U.2.2 5 (g : Int) (w : Int) v hU.u u1 u2 u5
    rw [r3] at C0
    generalize rdV T.2.2 1 (g : Int) w = xv at *
    have Rd_at : RdS.rel [fm T.1 T.2.1 T.2.2, iv 1, iv (g : Int), iv (w : Int)] [] (.tup [wv (xv : Int), iv 0]) [] := A0
    have rdsA_at : rdsAS.rel [fm U.1 U.2.1 U.2.2, iv 1, iv (g : Int), iv (w : Int), wv (xv : Int)] [] (bv true) [] := B0
    have rdsC_at : rdsCS.rel [fm U.1 U.2.1 U.2.2, iv 5, iv (g : Int), iv (w : Int), wv (v : Int)] [] (bv true) [] := C0
    repeat' (first
      | (with_reducible first | refine W_seq ?_ | refine W_condT rfl ?_ | refine W_condF rfl ?_ | refine W_tf rfl (fun h => ?_) (fun h => ?_) | refine W_block ?_ | refine endQ_ret ?_ | refine endQ_normal ?_)
      | ((with_reducible first | refine hK _ ?_ | refine hK _ _ ?_); clear hK K)
      | ((first | (with_reducible first | refine ops_cons (fun K hK => ?_) | refine ops_nil ?_ | refine fit_i64 (by omega) ?_ | refine fit_any ?_ | refine quo_nn (by omega) ?_ | refine rem_nn (by omega) ?_ | refine quo_any ?_ | refine rem_any ?_) | with_reducible refine callV_snap ?_ | ((with_reducible refine call_go knoS kno_ok ?_); refine ⟨(by first | exact alOk_nil _ | exact alOk_f rfl), _, _, kno_at , ?_⟩) | ((with_reducible refine call_go madS mad_ok ?_); refine ⟨(by first | exact alOk_nil _ | exact alOk_f rfl), _, _, mad_at , ?_⟩) | ((with_reducible refine call_go ModS Mod_ok ?_); refine ⟨(by first | exact alOk_nil _ | exact alOk_f rfl), _, _, Mod_at n 64 (by decide) (by decide), ?_⟩) | ((with_reducible refine call_go FrkFS FrkF_ok ?_); refine ⟨(by first | exact alOk_nil _ | exact alOk_f rfl), _, _, FrkF_at , ?_⟩) | ((with_reducible refine call_go SmeS Sme_ok ?_); refine ⟨(by first | exact alOk_nil _ | exact alOk_f rfl), _, _, Sme_at , ?_⟩) | ((with_reducible refine call_go WrtFS WrtF_ok ?_); refine ⟨(by first | exact alOk_nil _ | exact alOk_f rfl), _, _, WrtF_at , ?_⟩) | ((with_reducible refine call_go RdS Rd_ok ?_); refine ⟨(by first | exact alOk_nil _ | exact alOk_f rfl), _, _, Rd_at , ?_⟩) | ((with_reducible refine call_go rdsAS rdsA_ok ?_); refine ⟨(by first | exact alOk_nil _ | exact alOk_f rfl), _, _, rdsA_at , ?_⟩) | ((with_reducible refine call_go rdsCS rdsC_ok ?_); refine ⟨(by first | exact alOk_nil _ | exact alOk_f rfl), _, _, rdsC_at , ?_⟩) | ((with_reducible refine call_go ExtFS ExtF_ok ?_); refine ⟨(by first | exact alOk_nil _ | exact alOk_f rfl), _, _, ExtF_at , ?_⟩) | ((with_reducible refine call_go SpnFS SpnF_ok ?_); refine ⟨(by first | exact alOk_nil _ | exact alOk_f rfl), _, _, SpnF_at , ?_⟩) | ((with_reducible refine call_go MapFS MapF_ok ?_); refine ⟨(by first | exact alOk_nil _ | exact alOk_f rfl), _, _, MapF_at , ?_⟩) | ((with_reducible refine call_go SmfRS SmfR_ok ?_); refine ⟨(by first | exact alOk_nil _ | exact alOk_f rfl), _, _, SmfR_at S.1 S.2.1 S.2.2 z1 z2 z5, ?_⟩) | (with_reducible first | refine W_reg lv9FlAV ?_ | refine W_skip ?_ | refine W_exit ?_ | refine W_ret ?_ | refine end_at0 ?_) | (with_reducible refine And.intro (fun h => ?_) (fun h => ?_)) | (with_reducible refine And.intro (by omega) ?_)); (try simp only [go_sem, seval, reduceCtorEq, hm, w1, w2, lv9FlAV, Try.ntmps9, Try.results9, ffS]))
      | fail)
    refine W_loop (fun i : Nat => ⟨[(7, bv true), (15, iv 0), (22, .ptr 0 0), (24, iv (i : Int))], [some (.box 26 [.d (.sl (S3.1.map encDB)), .d (.sl (S3.2.1.map encU)), .d (.sl (S3.2.2.map encCl))])]⟩) (fun i => i ≤ 64) (fun i => 64 - i) 0 (Nat.zero_le _) [5] ?_ ?_
    · simp [go_sem]
    intro i hi
    have hn0 : ((0 : Nat) : Int) = 0 := rfl
    by_cases hlt : i < 64
    · have hki : (i : Int) < 64 := by omega
      repeat' (first
        | (with_reducible first | refine W_seq ?_ | refine W_condT rfl ?_ | refine W_condF rfl ?_ | refine W_tf rfl (fun h => ?_) (fun h => ?_) | refine W_block ?_ | refine endQ_ret ?_ | refine endQ_normal ?_)
        | ((with_reducible first | refine hK _ ?_ | refine hK _ _ ?_); clear hK K)
        | ((with_reducible refine And.intro eqt_ct ?_); (try simp only [go_sem, seval, reduceCtorEq]))
        | ((first | (with_reducible first | refine ops_cons (fun K hK => ?_) | refine ops_nil ?_ | refine fit_i64 (by omega) ?_ | refine fit_any ?_ | refine quo_nn (by omega) ?_ | refine rem_nn (by omega) ?_ | refine quo_any ?_ | refine rem_any ?_) | with_reducible refine callV_snap ?_ | ((with_reducible refine call_go Pg8S Pg8_ok ?_); refine ⟨(by first | exact alOk_nil _ | exact alOk_f rfl), _, _, Pg8_at S3.1 S3.2.1 S3.2.2 5 i 0 0 0 0 0 0 0 0 0 n4.u v1 v2 v5 (n5 i hlt).2 (n5 i hlt).1, ?_⟩) | (with_reducible first | refine W_reg lv9FlAV ?_ | refine W_skip ?_ | refine W_exit ?_ | refine W_ret ?_ | refine end_at0 ?_) | (with_reducible refine And.intro (fun h => ?_) (fun h => ?_)) | (with_reducible refine And.intro (by omega) ?_)); (try simp only [go_sem, seval, reduceCtorEq, hki, hn0, lv9FlAV, Try.ntmps9, Try.results9, ffS]))
        | fail)
      refine ⟨i + 1, [0], by omega, by omega, ?_⟩
      simp [go_sem]
    · have hki : ¬ (i : Int) < 64 := by omega
      repeat' (first
        | (with_reducible first | refine W_seq ?_ | refine W_condT rfl ?_ | refine W_condF rfl ?_ | refine W_tf rfl (fun h => ?_) (fun h => ?_) | refine W_block ?_ | refine endQ_ret ?_ | refine endQ_normal ?_)
        | ((with_reducible first | refine hK _ ?_ | refine hK _ _ ?_); clear hK K)
        | ((first | (with_reducible first | refine ops_cons (fun K hK => ?_) | refine ops_nil ?_ | refine fit_i64 (by omega) ?_ | refine fit_any ?_ | refine quo_nn (by omega) ?_ | refine rem_nn (by omega) ?_ | refine quo_any ?_ | refine rem_any ?_) | with_reducible refine callV_snap ?_ | (with_reducible first | refine W_reg lv9FlAV ?_ | refine W_skip ?_ | refine W_exit ?_ | refine W_ret ?_ | refine end_at0 ?_) | (with_reducible refine And.intro (fun h => ?_) (fun h => ?_)) | (with_reducible refine And.intro (by omega) ?_)); (try simp only [go_sem, seval, reduceCtorEq, hki, lv9FlAV, Try.ntmps9, Try.results9, ffS]))
        | fail)
  · skip
    repeat' (first
      | (with_reducible first | refine W_seq ?_ | refine W_condT rfl ?_ | refine W_condF rfl ?_ | refine W_tf rfl (fun h => ?_) (fun h => ?_) | refine W_block ?_ | refine endQ_ret ?_ | refine endQ_normal ?_)
      | ((with_reducible first | refine hK _ ?_ | refine hK _ _ ?_); clear hK K)
      | ((first | (with_reducible first | refine ops_cons (fun K hK => ?_) | refine ops_nil ?_ | refine fit_i64 (by omega) ?_ | refine fit_any ?_ | refine quo_nn (by omega) ?_ | refine rem_nn (by omega) ?_ | refine quo_any ?_ | refine rem_any ?_) | with_reducible refine callV_snap ?_ | ((with_reducible refine call_go knoS kno_ok ?_); refine ⟨(by first | exact alOk_nil _ | exact alOk_f rfl), _, _, kno_at , ?_⟩) | ((with_reducible refine call_go madS mad_ok ?_); refine ⟨(by first | exact alOk_nil _ | exact alOk_f rfl), _, _, mad_at , ?_⟩) | ((with_reducible refine call_go ModS Mod_ok ?_); refine ⟨(by first | exact alOk_nil _ | exact alOk_f rfl), _, _, Mod_at n 64 (by decide) (by decide), ?_⟩) | ((with_reducible refine call_go FrkFS FrkF_ok ?_); refine ⟨(by first | exact alOk_nil _ | exact alOk_f rfl), _, _, FrkF_at , ?_⟩) | ((with_reducible refine call_go SmeS Sme_ok ?_); refine ⟨(by first | exact alOk_nil _ | exact alOk_f rfl), _, _, Sme_at , ?_⟩) | ((with_reducible refine call_go WrtFS WrtF_ok ?_); refine ⟨(by first | exact alOk_nil _ | exact alOk_f rfl), _, _, WrtF_at , ?_⟩) | ((with_reducible refine call_go ExtFS ExtF_ok ?_); refine ⟨(by first | exact alOk_nil _ | exact alOk_f rfl), _, _, ExtF_at , ?_⟩) | ((with_reducible refine call_go SpnFS SpnF_ok ?_); refine ⟨(by first | exact alOk_nil _ | exact alOk_f rfl), _, _, SpnF_at , ?_⟩) | ((with_reducible refine call_go MapFS MapF_ok ?_); refine ⟨(by first | exact alOk_nil _ | exact alOk_f rfl), _, _, MapF_at , ?_⟩) | ((with_reducible refine call_go SmfRS SmfR_ok ?_); refine ⟨(by first | exact alOk_nil _ | exact alOk_f rfl), _, _, SmfR_at S.1 S.2.1 S.2.2 z1 z2 z5, ?_⟩) | (with_reducible first | refine W_reg lv9FlAV ?_ | refine W_skip ?_ | refine W_exit ?_ | refine W_ret ?_ | refine end_at0 ?_) | (with_reducible refine And.intro (fun h => ?_) (fun h => ?_)) | (with_reducible refine And.intro (by omega) ?_)); (try simp only [go_sem, seval, reduceCtorEq, hm, w1, w2, lv9FlAV, Try.ntmps9, Try.results9, ffS]))
      | fail)
    refine W_loop (fun i : Nat => ⟨[(7, bv true), (15, iv 12), (22, .ptr 0 0), (24, iv (i : Int))], [some (.box 26 [.d (.sl (S3.1.map encDB)), .d (.sl (S3.2.1.map encU)), .d (.sl (S3.2.2.map encCl))])]⟩) (fun i => i ≤ 64) (fun i => 64 - i) 0 (Nat.zero_le _) [5] ?_ ?_
    · simp [go_sem]
    intro i hi
    have hn0 : ((0 : Nat) : Int) = 0 := rfl
    by_cases hlt : i < 64
    · have hki : (i : Int) < 64 := by omega
      repeat' (first
        | (with_reducible first | refine W_seq ?_ | refine W_condT rfl ?_ | refine W_condF rfl ?_ | refine W_tf rfl (fun h => ?_) (fun h => ?_) | refine W_block ?_ | refine endQ_ret ?_ | refine endQ_normal ?_)
        | ((with_reducible first | refine hK _ ?_ | refine hK _ _ ?_); clear hK K)
        | ((with_reducible refine And.intro eqt_ct ?_); (try simp only [go_sem, seval, reduceCtorEq]))
        | ((first | (with_reducible first | refine ops_cons (fun K hK => ?_) | refine ops_nil ?_ | refine fit_i64 (by omega) ?_ | refine fit_any ?_ | refine quo_nn (by omega) ?_ | refine rem_nn (by omega) ?_ | refine quo_any ?_ | refine rem_any ?_) | with_reducible refine callV_snap ?_ | ((with_reducible refine call_go Pg8S Pg8_ok ?_); refine ⟨(by first | exact alOk_nil _ | exact alOk_f rfl), _, _, Pg8_at S3.1 S3.2.1 S3.2.2 5 i 0 0 0 0 0 0 0 0 0 n4.u v1 v2 v5 (n5 i hlt).2 (n5 i hlt).1, ?_⟩) | (with_reducible first | refine W_reg lv9FlAV ?_ | refine W_skip ?_ | refine W_exit ?_ | refine W_ret ?_ | refine end_at0 ?_) | (with_reducible refine And.intro (fun h => ?_) (fun h => ?_)) | (with_reducible refine And.intro (by omega) ?_)); (try simp only [go_sem, seval, reduceCtorEq, hki, hn0, lv9FlAV, Try.ntmps9, Try.results9, ffS]))
        | fail)
      refine ⟨i + 1, [0], by omega, by omega, ?_⟩
      simp [go_sem]
    · have hki : ¬ (i : Int) < 64 := by omega
      repeat' (first
        | (with_reducible first | refine W_seq ?_ | refine W_condT rfl ?_ | refine W_condF rfl ?_ | refine W_tf rfl (fun h => ?_) (fun h => ?_) | refine W_block ?_ | refine endQ_ret ?_ | refine endQ_normal ?_)
        | ((with_reducible first | refine hK _ ?_ | refine hK _ _ ?_); clear hK K)
        | ((first | (with_reducible first | refine ops_cons (fun K hK => ?_) | refine ops_nil ?_ | refine fit_i64 (by omega) ?_ | refine fit_any ?_ | refine quo_nn (by omega) ?_ | refine rem_nn (by omega) ?_ | refine quo_any ?_ | refine rem_any ?_) | with_reducible refine callV_snap ?_ | (with_reducible first | refine W_reg lv9FlAV ?_ | refine W_skip ?_ | refine W_exit ?_ | refine W_ret ?_ | refine end_at0 ?_) | (with_reducible refine And.intro (fun h => ?_) (fun h => ?_)) | (with_reducible refine And.intro (by omega) ?_)); (try simp only [go_sem, seval, reduceCtorEq, hki, lv9FlAV, Try.ntmps9, Try.results9, ffS]))
        | fail)
end Go.Proofs.Ytdfolpfibhfmlaa
