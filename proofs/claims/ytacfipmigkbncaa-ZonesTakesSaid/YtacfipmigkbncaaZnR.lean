/- The specification's Take, by the engine; ZonesTakes. -/
import Derived.Test.YtacfipmigkbncaaZnQ
import Derived.Test.YtacfipmigkbncaaZnT
namespace Go.Proofs.Ytacfipmigkbncaa
open Go.RowKit
set_option maxRecDepth 100000
set_option linter.unusedSimpArgs false
set_option linter.unusedVariables false

abbrev lv18ZnR : List (Nat × List Nat) := [(0, [1, 2, 3, 6]), (1, [1, 2, 3, 6, 9, 10]), (2, [1, 2, 3, 6, 9, 10, 21]), (3, [6, 7, 8]), (4, [1, 2, 3, 6, 9, 26]), (5, [6, 7, 8]), (6, [1, 2, 3, 6, 38]), (7, [6, 7, 8]), (8, [1, 2, 3, 6]), (9, [1, 2, 3, 6, 11]), (10, [1, 2, 3, 6, 11, 12]), (11, [1, 2, 3, 6, 11, 12, 48]), (12, [1, 2, 3, 6, 11, 12]), (13, [1, 2, 3, 6, 11, 12, 13, 14]), (14, [1, 2, 3, 6, 11, 12]), (15, [6, 7, 8])]
abbrev lv4ZnR : List (Nat × List Nat) := [(0, [1, 2, 3]), (1, [1, 2, 3, 24]), (2, [6]), (3, [1, 2, 3, 7]), (4, [1, 2, 3, 7, 8, 9, 10]), (5, [3, 7, 8, 9, 10, 11, 12, 13]), (6, [6])]
abbrev rTtvS : Spec := TtS
theorem rTtv_ok : Ok Try.prog 29 rTtvS := rTt_ok
set_option maxHeartbeats 8000000 in
theorem rTk_ok : Ok Try.prog 18 TkS := by
  refine fn_ok TkS Try.func18 rfl rfl ?_
  rintro args ins res outs (⟨low, zs, n, p, hl, hz, he, rfl, rfl, rfl, rfl⟩ | ⟨a, b, n, p, R, hv, hn, hp, hR, rfl, rfl, rfl, rfl⟩)
  all_goals refine ⟨by simp [Try.ntmps18], fun w0 V Bo mu0 => ?_⟩
  · have T0 := Tt_at low zs hl hz
    unfold tkE at he ⊢
    generalize (tsE low zs).sum = S at *
    generalize zzchk low zs = E at *
    have rTtv_at : TtS.rel [zzv low zs] [] (.tup [iv S, iv E]) [] := T0
    by_cases hc : E = 0
    · subst hc
      rw [if_neg (by decide)] at he ⊢
      by_cases h1 : n < 0 ∨ ¬ (p = 0 ∨ p = 1)
      · rw [if_pos h1]
        by_cases h2 : n < 0
        · skip
          repeat' (first
            | (with_reducible first | refine W_seq ?_ | refine W_condT rfl ?_ | refine W_condF rfl ?_ | refine W_tf rfl (fun h => ?_) (fun h => ?_) | refine W_block ?_ | refine endQ_ret ?_ | refine endQ_normal ?_)
            | ((with_reducible first | refine hK _ ?_ | refine hK _ _ ?_); clear hK K)
            | ((first | (with_reducible first | refine ops_cons (fun K hK => ?_) | refine opsd_cons (fun K hK => ?_) | refine ops_nil ?_ | refine fit_i64 (by omega) ?_ | refine fit_any ?_) | ((with_reducible refine opsd_nil ?_); refine And.intro (by kernel_rfl) ?_) | with_reducible refine callV_snap ?_ | ((with_reducible refine call_go rTtvS rTtv_ok ?_); refine ⟨(by first | exact alOk_nil _ | exact alOk_f rfl), _, _, rTtv_at , ?_⟩) | (with_reducible first | refine slice_old ?_ | refine app_grow ?_ | refine W_reg lv18ZnR ?_ | refine W_drw lv18ZnR (by kernel_rfl) ?_ | refine W_skip ?_ | refine W_exit ?_ | refine W_ret ?_ | refine end_at0 ?_) | (with_reducible refine And.intro (fun h => ?_) (fun h => ?_)) | (with_reducible refine And.intro (by omega) ?_)); (try simp only [go_sem, seval, reduceCtorEq, h2, lv18ZnR, Try.ntmps18, Try.results18, TkS]))
            | fail)
        · by_cases h3 : p < 0
          · skip
            repeat' (first
              | (with_reducible first | refine W_seq ?_ | refine W_condT rfl ?_ | refine W_condF rfl ?_ | refine W_tf rfl (fun h => ?_) (fun h => ?_) | refine W_block ?_ | refine endQ_ret ?_ | refine endQ_normal ?_)
              | ((with_reducible first | refine hK _ ?_ | refine hK _ _ ?_); clear hK K)
              | ((first | (with_reducible first | refine ops_cons (fun K hK => ?_) | refine opsd_cons (fun K hK => ?_) | refine ops_nil ?_ | refine fit_i64 (by omega) ?_ | refine fit_any ?_) | ((with_reducible refine opsd_nil ?_); refine And.intro (by kernel_rfl) ?_) | with_reducible refine callV_snap ?_ | ((with_reducible refine call_go rTtvS rTtv_ok ?_); refine ⟨(by first | exact alOk_nil _ | exact alOk_f rfl), _, _, rTtv_at , ?_⟩) | (with_reducible first | refine slice_old ?_ | refine app_grow ?_ | refine W_reg lv18ZnR ?_ | refine W_drw lv18ZnR (by kernel_rfl) ?_ | refine W_skip ?_ | refine W_exit ?_ | refine W_ret ?_ | refine end_at0 ?_) | (with_reducible refine And.intro (fun h => ?_) (fun h => ?_)) | (with_reducible refine And.intro (by omega) ?_)); (try simp only [go_sem, seval, reduceCtorEq, h2, h3, lv18ZnR, Try.ntmps18, Try.results18, TkS]))
              | fail)
          · have h4 : 1 < p := by omega
            repeat' (first
              | (with_reducible first | refine W_seq ?_ | refine W_condT rfl ?_ | refine W_condF rfl ?_ | refine W_tf rfl (fun h => ?_) (fun h => ?_) | refine W_block ?_ | refine endQ_ret ?_ | refine endQ_normal ?_)
              | ((with_reducible first | refine hK _ ?_ | refine hK _ _ ?_); clear hK K)
              | ((first | (with_reducible first | refine ops_cons (fun K hK => ?_) | refine opsd_cons (fun K hK => ?_) | refine ops_nil ?_ | refine fit_i64 (by omega) ?_ | refine fit_any ?_) | ((with_reducible refine opsd_nil ?_); refine And.intro (by kernel_rfl) ?_) | with_reducible refine callV_snap ?_ | ((with_reducible refine call_go rTtvS rTtv_ok ?_); refine ⟨(by first | exact alOk_nil _ | exact alOk_f rfl), _, _, rTtv_at , ?_⟩) | (with_reducible first | refine slice_old ?_ | refine app_grow ?_ | refine W_reg lv18ZnR ?_ | refine W_drw lv18ZnR (by kernel_rfl) ?_ | refine W_skip ?_ | refine W_exit ?_ | refine W_ret ?_ | refine end_at0 ?_) | (with_reducible refine And.intro (fun h => ?_) (fun h => ?_)) | (with_reducible refine And.intro (by omega) ?_)); (try simp only [go_sem, seval, reduceCtorEq, h2, h3, h4, lv18ZnR, Try.ntmps18, Try.results18, TkS]))
              | fail)
      · rw [if_neg h1] at he ⊢
        by_cases h3 : S < n
        · rw [if_pos h3]
          have h2 : ¬ n < 0 := by omega
          have h4 : ¬ p < 0 := by omega
          have h5 : ¬ 1 < p := by omega
          repeat' (first
            | (with_reducible first | refine W_seq ?_ | refine W_condT rfl ?_ | refine W_condF rfl ?_ | refine W_tf rfl (fun h => ?_) (fun h => ?_) | refine W_block ?_ | refine endQ_ret ?_ | refine endQ_normal ?_)
            | ((with_reducible first | refine hK _ ?_ | refine hK _ _ ?_); clear hK K)
            | ((first | (with_reducible first | refine ops_cons (fun K hK => ?_) | refine opsd_cons (fun K hK => ?_) | refine ops_nil ?_ | refine fit_i64 (by omega) ?_ | refine fit_any ?_) | ((with_reducible refine opsd_nil ?_); refine And.intro (by kernel_rfl) ?_) | with_reducible refine callV_snap ?_ | ((with_reducible refine call_go rTtvS rTtv_ok ?_); refine ⟨(by first | exact alOk_nil _ | exact alOk_f rfl), _, _, rTtv_at , ?_⟩) | (with_reducible first | refine slice_old ?_ | refine app_grow ?_ | refine W_reg lv18ZnR ?_ | refine W_drw lv18ZnR (by kernel_rfl) ?_ | refine W_skip ?_ | refine W_exit ?_ | refine W_ret ?_ | refine end_at0 ?_) | (with_reducible refine And.intro (fun h => ?_) (fun h => ?_)) | (with_reducible refine And.intro (by omega) ?_)); (try simp only [go_sem, seval, reduceCtorEq, h2, h3, h4, h5, lv18ZnR, Try.ntmps18, Try.results18, TkS]))
            | fail)
        · rw [if_neg h3] at he; exact absurd rfl he
    · rw [if_pos hc]
      repeat' (first
        | (with_reducible first | refine W_seq ?_ | refine W_condT rfl ?_ | refine W_condF rfl ?_ | refine W_tf rfl (fun h => ?_) (fun h => ?_) | refine W_block ?_ | refine endQ_ret ?_ | refine endQ_normal ?_)
        | ((with_reducible first | refine hK _ ?_ | refine hK _ _ ?_); clear hK K)
        | ((first | (with_reducible first | refine ops_cons (fun K hK => ?_) | refine opsd_cons (fun K hK => ?_) | refine ops_nil ?_ | refine fit_i64 (by omega) ?_ | refine fit_any ?_) | ((with_reducible refine opsd_nil ?_); refine And.intro (by kernel_rfl) ?_) | with_reducible refine callV_snap ?_ | ((with_reducible refine call_go rTtvS rTtv_ok ?_); refine ⟨(by first | exact alOk_nil _ | exact alOk_f rfl), _, _, rTtv_at , ?_⟩) | (with_reducible first | refine slice_old ?_ | refine app_grow ?_ | refine W_reg lv18ZnR ?_ | refine W_drw lv18ZnR (by kernel_rfl) ?_ | refine W_skip ?_ | refine W_exit ?_ | refine W_ret ?_ | refine end_at0 ?_) | (with_reducible refine And.intro (fun h => ?_) (fun h => ?_)) | (with_reducible refine And.intro (by omega) ?_)); (try simp only [go_sem, seval, reduceCtorEq, hc, lv18ZnR, Try.ntmps18, Try.results18, TkS]))
        | fail)
  · have rTtv_at := Ttv_at hv
    have h2 : ¬ (n : Int) < 0 := by omega
    have h3 : ¬ ((tot a.2 + tot b.2 : Nat) : Int) < (n : Int) := by omega
    have h4 : ¬ p < 0 := by omega
    have h5 : ¬ 1 < p := by omega
    have ht0 := tot_le hv.fa
    have ht1 := tot_le hv.fb
    repeat' (first
      | (with_reducible first | refine W_seq ?_ | refine W_condT rfl ?_ | refine W_condF rfl ?_ | refine W_tf rfl (fun h => ?_) (fun h => ?_) | refine W_block ?_ | refine endQ_ret ?_ | refine endQ_normal ?_)
      | ((with_reducible first | refine hK _ ?_ | refine hK _ _ ?_); clear hK K)
      | ((first | (with_reducible first | refine ops_cons (fun K hK => ?_) | refine opsd_cons (fun K hK => ?_) | refine ops_nil ?_ | refine fit_i64 (by omega) ?_ | refine fit_any ?_) | ((with_reducible refine opsd_nil ?_); refine And.intro (by kernel_rfl) ?_) | with_reducible refine callV_snap ?_ | ((with_reducible refine call_go rTtvS rTtv_ok ?_); refine ⟨(by first | exact alOk_nil _ | exact alOk_f rfl), _, _, rTtv_at , ?_⟩) | ((with_reducible refine call_go rwCFS rwCF_ok ?_); refine ⟨(by first | exact alOk_nil _ | exact alOk_f rfl), _, _, rwCF_at a.1 a b hv.l2a hv.l2b, ?_⟩) | (with_reducible first | refine slice_old ?_ | refine app_grow ?_ | refine W_reg lv18ZnR ?_ | refine W_drw lv18ZnR (by kernel_rfl) ?_ | refine W_skip ?_ | refine W_exit ?_ | refine W_ret ?_ | refine end_at0 ?_) | (with_reducible refine And.intro (fun h => ?_) (fun h => ?_)) | (with_reducible refine And.intro (by omega) ?_)); (try simp only [go_sem, seval, reduceCtorEq, h2, h3, h4, h5, lv18ZnR, Try.ntmps18, Try.results18, TkS]))
      | fail)
    refine W_adopt 11 3 1 (by decide) (by simp [go_sem]) ?_
    refine W_loop (fun x : Nat × Zn × Zn × List Nat => ⟨[(1, iv n), (2, iv p), (3, .ptr 0 0), (6, .ptr 1 0), (11, .row 2 1 0 x.2.2.2.length), (12, iv x.1)], [some (.box 24 [iv a.1, .d (.sl [[.int .i64 (x.2.1.1 : Int), .sl (x.2.1.2.map encN)], [.int .i64 (x.2.2.1.1 : Int), .sl (x.2.2.1.2.map encN)]])]), some (.box 24 [iv 0, .nil]), some (.rows 3 1 ((nI x.2.2.2).map encDI))]⟩)
      (fun x => x.1 ≤ n ∧ x.2.2.2.length = x.1 ∧ Vzz x.2.1 x.2.2.1 ∧ x.2.1.1 = a.1 ∧ n - x.1 ≤ tot x.2.1.2 + tot x.2.2.1.2 ∧ tkG p (n - x.1) x.2.1 x.2.2.1 x.2.2.2 = R) (fun x => n - x.1) (0, a, b, []) ⟨Nat.zero_le _, rfl, hv, rfl, hn, hR⟩ [0, 1, 2] ?_ ?_
    · simp [go_sem, nI]
    rintro ⟨i, a', b', l⟩ ⟨hi, hll, hv', ha1, hn', hgo⟩
    dsimp only at hi hll hv' ha1 hn' hgo
    clear rTtv_at
    by_cases hlt : i < n
    · have hki : (i : Int) < n := by omega
      have hni : n - i = (n - (i + 1)) + 1 := by omega
      rw [hni, tkG] at hgo
      have h0 := rzall_at (q := 0) hv' (by decide) hp
      cases hr : alcZ a' b' 0 p with
      | none => have := alc0_none hr; omega
      | some r =>
        rw [hr] at h0 hgo
        dsimp only at hgo
        rw [ha1] at h0
        have ha := alc_law hv' (by decide) hr
        have ht := alc_tot hv' ha
        have hea := ha.ea
        have rzAllF_at : rzAllFS.rel [zzn a.1 a' b', iv 0, iv p] [] (.tup [zzn a.1 r.1 r.2.1, iv r.2.2, iv 0]) [] := h0
        have hlen : (nI l).length = l.length := nI_len l
        have happ : (nI (l ++ [r.2.2])).map encDI = (nI l).map encDI ++ [[.int .i64 (r.2.2 : Int)]] := by rw [nI_app]; simp [encDI]
        have htm : List.take l.length (List.map encDI (nI l)) = List.map encDI (nI l) := List.take_of_length_le (by simp [hlen])
        repeat' (first
          | (with_reducible first | refine W_seq ?_ | refine W_condT rfl ?_ | refine W_condF rfl ?_ | refine W_tf rfl (fun h => ?_) (fun h => ?_) | refine W_block ?_ | refine endQ_ret ?_ | refine endQ_normal ?_)
          | ((with_reducible first | refine hK _ ?_ | refine hK _ _ ?_); clear hK K)
          | ((first | (with_reducible first | refine ops_cons (fun K hK => ?_) | refine opsd_cons (fun K hK => ?_) | refine ops_nil ?_ | refine fit_i64 (by omega) ?_ | refine fit_any ?_) | ((with_reducible refine opsd_nil ?_); refine And.intro (by kernel_rfl) ?_) | with_reducible refine callV_snap ?_ | ((with_reducible refine call_go rzAllFS rzAllF_ok ?_); refine ⟨(by first | exact alOk_nil _ | exact alOk_f rfl), _, _, rzAllF_at , ?_⟩) | (with_reducible first | refine slice_old ?_ | refine app_grow ?_ | refine W_reg lv18ZnR ?_ | refine W_drw lv18ZnR (by kernel_rfl) ?_ | refine W_skip ?_ | refine W_exit ?_ | refine W_ret ?_ | refine end_at0 ?_) | (with_reducible refine And.intro (fun h => ?_) (fun h => ?_)) | (with_reducible refine And.intro (by omega) ?_)); (try simp only [go_sem, seval, reduceCtorEq, hki, lv18ZnR, Try.ntmps18, Try.results18, TkS]))
          | fail)
        refine ⟨(i + 1, r.1, r.2.1, l ++ [r.2.2]), [0, 1, 5], ⟨by dsimp only; omega, by simp; omega, ha.v, by dsimp only; omega, by dsimp only; omega, hgo⟩, by dsimp only; omega, ?_⟩
        simp only [happ]
        simp [go_sem, htm, hlen]
    · have hki : ¬ (i : Int) < n := by omega
      rw [show n - i = 0 by omega, tkG] at hgo
      subst hgo
      repeat' (first
        | (with_reducible first | refine W_seq ?_ | refine W_condT rfl ?_ | refine W_condF rfl ?_ | refine W_tf rfl (fun h => ?_) (fun h => ?_) | refine W_block ?_ | refine endQ_ret ?_ | refine endQ_normal ?_)
        | ((with_reducible first | refine hK _ ?_ | refine hK _ _ ?_); clear hK K)
        | ((first | (with_reducible first | refine ops_cons (fun K hK => ?_) | refine opsd_cons (fun K hK => ?_) | refine ops_nil ?_ | refine fit_i64 (by omega) ?_ | refine fit_any ?_) | ((with_reducible refine opsd_nil ?_); refine And.intro (by kernel_rfl) ?_) | with_reducible refine callV_snap ?_ | (with_reducible first | refine slice_old ?_ | refine app_grow ?_ | refine W_reg lv18ZnR ?_ | refine W_drw lv18ZnR (by kernel_rfl) ?_ | refine W_skip ?_ | refine W_exit ?_ | refine end_at0 ?_) | (with_reducible refine And.intro (fun h => ?_) (fun h => ?_)) | (with_reducible refine And.intro (by omega) ?_)); (try simp only [go_sem, seval, reduceCtorEq, hki, lv18ZnR, Try.ntmps18, Try.results18, TkS]))
        | fail)
      refine W_ret (endQ_ret (end_at [2] ?_))
      simp [go_sem, Try.results18, TkS]
abbrev rTkFS : Spec := frzS TkS
theorem rTkF_ok : Ok Try.prog 18 rTkFS := frzS_ok rTk_ok
theorem tk_ex (low : Int) (zs : List Zo) (n p : Int) (h1 : zs.length ≤ 1000000) (h2 : ∀ z ∈ zs, z.2.length ≤ 1000000) :
    ∃ (l : Int) (zs' : List Zo) (L : List Int) (e : Int), zs'.length ≤ 1000000 ∧ (∀ z ∈ zs', z.2.length ≤ 1000000) ∧ L.length ≤ 1000000 ∧ (frzS TkS).rel [zzv low zs, iv n, iv p] [] (.tup [zzv l zs', dI L, iv e]) [] := by
  by_cases hc : tkE low zs n p = 0
  · unfold tkE at hc
    by_cases h3 : zzchk low zs = 0
    · obtain ⟨a, b, rfl, rfl, hv⟩ := vzz_of h3
      rw [if_neg (by simpa using h3), tsE_v hv] at hc
      by_cases h4 : n < 0 ∨ ¬ (p = 0 ∨ p = 1)
      · rw [if_pos h4] at hc; cases hc
      · rw [if_neg h4] at hc
        have hs : ([(tot a.2 : Int), (tot b.2 : Int)]).sum = ((tot a.2 + tot b.2 : Nat) : Int) := by simp
        rw [hs] at hc
        by_cases h5 : ((tot a.2 + tot b.2 : Nat) : Int) < n
        · rw [if_pos h5] at hc; cases hc
        · obtain ⟨k, rfl⟩ := Int.eq_ofNat_of_zero_le (show 0 ≤ n by omega)
          have ht0 := tot_le hv.fa
          have ht1 := tot_le hv.fb
          obtain ⟨v1, v2, v3, v4, l, l1, l2, l3, l4⟩ := tkG_law p k [] hv (by omega)
          have g := tkF_at hv (show k ≤ tot a.2 + tot b.2 by omega) (show p = 0 ∨ p = 1 by omega) rfl
          refine ⟨a.1, [toZ (tkG p k a b []).1, toZ (tkG p k a b []).2.1], nI (tkG p k a b []).2.2, 0, by simp, zzn_le v1.l2a v1.l2b, ?_, ?_⟩
          · rw [nI_len, l1]; simp; omega
          · rw [zz2_eq, zz2_toZ, zz2_eq, zz2_toZ]; exact g
    · rw [if_pos h3] at hc; exact absurd hc h3
  · exact ⟨0, [], [], tkE low zs n p, by simp, by simp, by simp, rfl, rfl, _, _, .inl ⟨low, zs, n, p, h1, h2, hc, rfl, rfl, rfl, rfl⟩, by simp [frz, frzA, frzAL, frzL, frz1]⟩
set_option maxHeartbeats 8000000 in
theorem tks_ok : Ok Try.prog 4 alsS := by
  refine fn_ok alsS Try.func4 rfl rfl ?_
  rintro args ins res outs ⟨low, zs, n, p, hl, hz, rfl, rfl, rfl, rfl⟩
  refine ⟨by simp [Try.ntmps4], fun w0 V Bo mu0 => ?_⟩
  by_cases h1 : zs.length ≤ 3 ∧ ∀ z ∈ zs, z.2.length ≤ 130
  · have g := lght_at low zs hl hz
    rw [decide_eq_true h1] at g
    have lght_at : lghtS.rel [zzv low zs] [] (bv true) [] := g
    have hl6 : zs.length ≤ 1000000 := by omega
    have hz6 : ∀ z ∈ zs, z.2.length ≤ 1000000 := fun z hz => by have := h1.2 z hz; omega
    obtain ⟨l1, z1, L, e1, L1, M1, N1, g1⟩ := tk_ex low zs n p hl6 hz6
    have TkF_at : TkFS.rel [zzv low zs, iv n, iv p] [] (.tup [zzv l1 z1, dI L, iv e1]) [] := g1
    have rTkF_at : rTkFS.rel [zzv low zs, iv n, iv p] [] (.tup [zzv l1 z1, dI L, iv e1]) [] := g1
    by_cases c1 : 60 < n
    · by_cases c2 : n ≤ 256
      · skip
        repeat' (first
          | (with_reducible first | refine W_seq ?_ | refine W_condT rfl ?_ | refine W_condF rfl ?_ | refine W_tf rfl (fun h => ?_) (fun h => ?_) | refine endQ_ret ?_ | refine endQ_normal ?_)
          | ((with_reducible first | refine hK _ ?_ | refine hK _ _ ?_); clear hK K)
          | ((first | (with_reducible first | refine ops_cons (fun K hK => ?_) | refine ops_nil ?_) | with_reducible refine callV_snap ?_ | ((with_reducible refine call_go lghtS lght_ok ?_); refine ⟨(by first | exact alOk_nil _ | exact alOk_f rfl), _, _, lght_at , ?_⟩) | ((with_reducible refine call_go awkS awk_ok ?_); refine ⟨(by first | exact alOk_nil _ | exact alOk_f rfl), _, _, awk_at , ?_⟩) | (with_reducible first | refine W_reg lv4ZnR ?_ | refine W_skip ?_ | refine W_ret ?_ | refine end_at0 ?_) | (with_reducible refine And.intro (fun h => ?_) (fun h => ?_)) | (with_reducible refine And.intro (by omega) ?_)); (try simp only [go_sem, seval, reduceCtorEq, c1, c2, lv4ZnR, Try.ntmps4, Try.results4, alsS]))
          | fail)
      · skip
        repeat' (first
          | (with_reducible first | refine W_seq ?_ | refine W_condT rfl ?_ | refine W_condF rfl ?_ | refine W_tf rfl (fun h => ?_) (fun h => ?_) | refine endQ_ret ?_ | refine endQ_normal ?_)
          | ((with_reducible first | refine hK _ ?_ | refine hK _ _ ?_); clear hK K)
          | ((first | (with_reducible first | refine ops_cons (fun K hK => ?_) | refine ops_nil ?_) | with_reducible refine callV_snap ?_ | ((with_reducible refine call_go lghtS lght_ok ?_); refine ⟨(by first | exact alOk_nil _ | exact alOk_f rfl), _, _, lght_at , ?_⟩) | ((with_reducible refine call_go OwnZFS OwnZF_ok ?_); refine ⟨(by first | exact alOk_nil _ | exact alOk_f rfl), _, _, OwnZF_at low zs hl6 hz6, ?_⟩) | ((with_reducible refine call_go TkFS TkF_ok ?_); refine ⟨(by first | exact alOk_nil _ | exact alOk_f rfl), _, _, TkF_at , ?_⟩) | ((with_reducible refine call_go rTkFS rTkF_ok ?_); refine ⟨(by first | exact alOk_nil _ | exact alOk_f rfl), _, _, rTkF_at , ?_⟩) | ((with_reducible refine call_go SmZS SmZ_ok ?_); refine ⟨(by first | exact alOk_nil _ | exact alOk_f rfl), _, _, SmZ_at l1 z1 L1 M1, ?_⟩) | ((with_reducible refine call_go SameIS SameI_ok ?_); refine ⟨(by first | exact alOk_nil _ | exact alOk_f rfl), _, _, SameI_at L N1, ?_⟩) | ((with_reducible refine call_go SmZS SmZ_ok ?_); refine ⟨(by first | exact alOk_nil _ | exact alOk_f rfl), _, _, SmZ_at low zs hl6 hz6, ?_⟩) | ((with_reducible refine call_go awkS awk_ok ?_); refine ⟨(by first | exact alOk_nil _ | exact alOk_f rfl), _, _, awk_at , ?_⟩) | (with_reducible first | refine W_reg lv4ZnR ?_ | refine W_skip ?_ | refine W_ret ?_ | refine end_at0 ?_) | (with_reducible refine And.intro (fun h => ?_) (fun h => ?_)) | (with_reducible refine And.intro (by omega) ?_)); (try simp only [go_sem, seval, reduceCtorEq, c1, c2, lv4ZnR, Try.ntmps4, Try.results4, alsS]))
          | fail)
    · skip
      repeat' (first
        | (with_reducible first | refine W_seq ?_ | refine W_condT rfl ?_ | refine W_condF rfl ?_ | refine W_tf rfl (fun h => ?_) (fun h => ?_) | refine endQ_ret ?_ | refine endQ_normal ?_)
        | ((with_reducible first | refine hK _ ?_ | refine hK _ _ ?_); clear hK K)
        | ((first | (with_reducible first | refine ops_cons (fun K hK => ?_) | refine ops_nil ?_) | with_reducible refine callV_snap ?_ | ((with_reducible refine call_go lghtS lght_ok ?_); refine ⟨(by first | exact alOk_nil _ | exact alOk_f rfl), _, _, lght_at , ?_⟩) | ((with_reducible refine call_go OwnZFS OwnZF_ok ?_); refine ⟨(by first | exact alOk_nil _ | exact alOk_f rfl), _, _, OwnZF_at low zs hl6 hz6, ?_⟩) | ((with_reducible refine call_go TkFS TkF_ok ?_); refine ⟨(by first | exact alOk_nil _ | exact alOk_f rfl), _, _, TkF_at , ?_⟩) | ((with_reducible refine call_go rTkFS rTkF_ok ?_); refine ⟨(by first | exact alOk_nil _ | exact alOk_f rfl), _, _, rTkF_at , ?_⟩) | ((with_reducible refine call_go SmZS SmZ_ok ?_); refine ⟨(by first | exact alOk_nil _ | exact alOk_f rfl), _, _, SmZ_at l1 z1 L1 M1, ?_⟩) | ((with_reducible refine call_go SameIS SameI_ok ?_); refine ⟨(by first | exact alOk_nil _ | exact alOk_f rfl), _, _, SameI_at L N1, ?_⟩) | ((with_reducible refine call_go SmZS SmZ_ok ?_); refine ⟨(by first | exact alOk_nil _ | exact alOk_f rfl), _, _, SmZ_at low zs hl6 hz6, ?_⟩) | ((with_reducible refine call_go awkS awk_ok ?_); refine ⟨(by first | exact alOk_nil _ | exact alOk_f rfl), _, _, awk_at , ?_⟩) | (with_reducible first | refine W_reg lv4ZnR ?_ | refine W_skip ?_ | refine W_ret ?_ | refine end_at0 ?_) | (with_reducible refine And.intro (fun h => ?_) (fun h => ?_)) | (with_reducible refine And.intro (by omega) ?_)); (try simp only [go_sem, seval, reduceCtorEq, c1, lv4ZnR, Try.ntmps4, Try.results4, alsS]))
        | fail)
  · have g := lght_at low zs hl hz
    rw [decide_eq_false h1] at g
    have lght_at : lghtS.rel [zzv low zs] [] (bv false) [] := g
    repeat' (first
      | (with_reducible first | refine W_seq ?_ | refine W_condT rfl ?_ | refine W_condF rfl ?_ | refine W_tf rfl (fun h => ?_) (fun h => ?_) | refine endQ_ret ?_ | refine endQ_normal ?_)
      | ((with_reducible first | refine hK _ ?_ | refine hK _ _ ?_); clear hK K)
      | ((first | (with_reducible first | refine ops_cons (fun K hK => ?_) | refine ops_nil ?_) | with_reducible refine callV_snap ?_ | ((with_reducible refine call_go lghtS lght_ok ?_); refine ⟨(by first | exact alOk_nil _ | exact alOk_f rfl), _, _, lght_at , ?_⟩) | ((with_reducible refine call_go awkS awk_ok ?_); refine ⟨(by first | exact alOk_nil _ | exact alOk_f rfl), _, _, awk_at , ?_⟩) | (with_reducible first | refine W_reg lv4ZnR ?_ | refine W_skip ?_ | refine W_ret ?_ | refine end_at0 ?_) | (with_reducible refine And.intro (fun h => ?_) (fun h => ?_)) | (with_reducible refine And.intro (by omega) ?_)); (try simp only [go_sem, seval, reduceCtorEq, lv4ZnR, Try.ntmps4, Try.results4, alsS]))
      | fail)
end Go.Proofs.Ytacfipmigkbncaa
