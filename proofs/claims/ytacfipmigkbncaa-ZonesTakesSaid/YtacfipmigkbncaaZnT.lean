/- zones.Take, by the engine. -/
import Derived.Test.YtacfipmigkbncaaZnK
namespace Go.Proofs.Ytacfipmigkbncaa
open Go.RowKit
set_option maxRecDepth 100000
set_option linter.unusedSimpArgs false
set_option linter.unusedVariables false

abbrev lv17ZnT : List (Nat × List Nat) := [(0, [1, 2, 3, 6]), (1, [1, 2, 3, 6, 9, 10]), (2, [1, 2, 3, 6, 9, 10, 22]), (3, [6, 7, 8]), (4, [1, 2, 3, 6, 9, 31]), (5, [6, 7, 8]), (6, [1, 2, 3, 6, 35]), (7, [6, 7, 8]), (8, [1, 2, 6, 11]), (9, [1, 2, 6, 11, 12]), (10, [2, 6, 11, 12, 40, 41]), (11, [2, 6, 11, 12, 40, 41, 42]), (12, [2, 6, 11, 12, 13, 14, 15, 40, 41]), (13, [2, 6, 11, 12, 13, 14, 15, 40, 41, 51]), (14, [6, 7, 8]), (15, [2, 6, 11, 12, 14, 40, 41]), (16, [2, 6, 11, 12, 40, 41]), (17, [2, 6, 11, 12, 40, 41]), (18, [6, 7, 8])]
theorem Ttv_at {a b : Zn} (hv : Vzz a b) : TtS.rel [zzn a.1 a b] [] (.tup [iv ((tot a.2 + tot b.2 : Nat) : Int), iv 0]) [] := by
  have := Tt_at a.1 [toZ a, toZ b] (by simp) (zzn_le hv.l2a hv.l2b)
  rwa [tsE_v hv, zzchk_v hv, zz2_eq, zz2_toZ, show ([(tot a.2 : Int), (tot b.2 : Int)]).sum = ((tot a.2 + tot b.2 : Nat) : Int) by simp] at this
def nI (l : List Nat) : List Int := l.map fun x : Nat => (x : Int)
theorem nI_len (l : List Nat) : (nI l).length = l.length := by simp [nI]
theorem nI_app (l : List Nat) (x : Nat) : nI (l ++ [x]) = nI l ++ [(x : Int)] := by simp [nI]
def tkE (low : Int) (zs : List Zo) (n p : Int) : Int := if zzchk low zs ≠ 0 then zzchk low zs else if n < 0 ∨ ¬ (p = 0 ∨ p = 1) then 2 else if (tsE low zs).sum < n then 5 else 0
def TkS : Spec := { al := true, rel := fun args ins res outs => (∃ (low : Int) (zs : List Zo) (n p : Int), zs.length ≤ 1000000 ∧ (∀ z ∈ zs, z.2.length ≤ 1000000) ∧ tkE low zs n p ≠ 0 ∧ args = [zzv low zs, iv n, iv p] ∧ ins = [] ∧ res = .tup [.agg [iv 0, .nil], .nil, iv (tkE low zs n p)] ∧ outs = []) ∨
  (∃ (a b : Zn) (n : Nat) (p : Int) (R : Zn × Zn × List Nat), Vzz a b ∧ n ≤ tot a.2 + tot b.2 ∧ (p = 0 ∨ p = 1) ∧ tkG p n a b [] = R ∧ args = [zzn a.1 a b, iv n, iv p] ∧ ins = [] ∧ res = .tup [zzn a.1 R.1 R.2.1, .row 0 1 0 R.2.2.length, iv 0] ∧ outs = [.rows 3 1 ((nI R.2.2).map encDI)]) }
set_option maxHeartbeats 8000000 in
theorem Tk_ok : Ok Try.prog 17 TkS := by
  refine fn_ok TkS Try.func17 rfl rfl ?_
  rintro args ins res outs (⟨low, zs, n, p, hl, hz, he, rfl, rfl, rfl, rfl⟩ | ⟨a, b, n, p, R, hv, hn, hp, hR, rfl, rfl, rfl, rfl⟩)
  all_goals refine ⟨by simp [Try.ntmps17], fun w0 V Bo mu0 => ?_⟩
  · have T0 := Tt_at low zs hl hz
    unfold tkE at he ⊢
    generalize (tsE low zs).sum = S at *
    generalize zzchk low zs = E at *
    have Tt_at : TtS.rel [zzv low zs] [] (.tup [iv S, iv E]) [] := T0
    by_cases hc : E = 0
    · subst hc
      rw [if_neg (by decide)] at he ⊢
      by_cases h1 : n < 0 ∨ ¬ (p = 0 ∨ p = 1)
      · rw [if_pos h1]
        by_cases h2 : n < 0
        · skip
          repeat' (first
            | (with_reducible first | refine W_seq ?_ | refine W_condT rfl ?_ | refine W_condF rfl ?_ | refine W_tf rfl (fun h => ?_) (fun h => ?_) | refine W_block ?_ | refine endQ_ret ?_ | refine endQ_normal ?_)
            | ((with_reducible first | refine hK _ ?_ | refine hK _ _ ?_); clear hK K)
            | ((first | (with_reducible first | refine ops_cons (fun K hK => ?_) | refine ops_nil ?_ | refine fit_i64 (by omega) ?_ | refine fit_any ?_) | with_reducible refine callV_snap ?_ | ((with_reducible refine call_go TtS Tt_ok ?_); refine ⟨(by first | exact alOk_nil _ | exact alOk_f rfl), _, _, Tt_at , ?_⟩) | (with_reducible first | refine slice_old ?_ | refine app_grow ?_ | refine W_reg lv17ZnT ?_ | refine W_skip ?_ | refine W_exit ?_ | refine W_ret ?_ | refine end_at0 ?_) | (with_reducible refine And.intro (fun h => ?_) (fun h => ?_)) | (with_reducible refine And.intro (by omega) ?_)); (try simp only [go_sem, seval, reduceCtorEq, h2, lv17ZnT, Try.ntmps17, Try.results17, TkS]))
            | fail)
        · have hch := choice_at p
          rw [decide_eq_false (by omega)] at hch
          have choice_at : choiceS.rel [iv p] [] (bv false) [] := hch
          repeat' (first
            | (with_reducible first | refine W_seq ?_ | refine W_condT rfl ?_ | refine W_condF rfl ?_ | refine W_tf rfl (fun h => ?_) (fun h => ?_) | refine W_block ?_ | refine endQ_ret ?_ | refine endQ_normal ?_)
            | ((with_reducible first | refine hK _ ?_ | refine hK _ _ ?_); clear hK K)
            | ((first | (with_reducible first | refine ops_cons (fun K hK => ?_) | refine ops_nil ?_ | refine fit_i64 (by omega) ?_ | refine fit_any ?_) | with_reducible refine callV_snap ?_ | ((with_reducible refine call_go TtS Tt_ok ?_); refine ⟨(by first | exact alOk_nil _ | exact alOk_f rfl), _, _, Tt_at , ?_⟩) | ((with_reducible refine call_go choiceS choice_ok ?_); refine ⟨(by first | exact alOk_nil _ | exact alOk_f rfl), _, _, choice_at , ?_⟩) | (with_reducible first | refine slice_old ?_ | refine app_grow ?_ | refine W_reg lv17ZnT ?_ | refine W_skip ?_ | refine W_exit ?_ | refine W_ret ?_ | refine end_at0 ?_) | (with_reducible refine And.intro (fun h => ?_) (fun h => ?_)) | (with_reducible refine And.intro (by omega) ?_)); (try simp only [go_sem, seval, reduceCtorEq, h2, lv17ZnT, Try.ntmps17, Try.results17, TkS]))
            | fail)
      · rw [if_neg h1] at he ⊢
        by_cases h3 : S < n
        · rw [if_pos h3]
          have h2 : ¬ n < 0 := by omega
          have hch := choice_at p
          rw [decide_eq_true (by omega)] at hch
          have choice_at : choiceS.rel [iv p] [] (bv true) [] := hch
          repeat' (first
            | (with_reducible first | refine W_seq ?_ | refine W_condT rfl ?_ | refine W_condF rfl ?_ | refine W_tf rfl (fun h => ?_) (fun h => ?_) | refine W_block ?_ | refine endQ_ret ?_ | refine endQ_normal ?_)
            | ((with_reducible first | refine hK _ ?_ | refine hK _ _ ?_); clear hK K)
            | ((first | (with_reducible first | refine ops_cons (fun K hK => ?_) | refine ops_nil ?_ | refine fit_i64 (by omega) ?_ | refine fit_any ?_) | with_reducible refine callV_snap ?_ | ((with_reducible refine call_go TtS Tt_ok ?_); refine ⟨(by first | exact alOk_nil _ | exact alOk_f rfl), _, _, Tt_at , ?_⟩) | ((with_reducible refine call_go choiceS choice_ok ?_); refine ⟨(by first | exact alOk_nil _ | exact alOk_f rfl), _, _, choice_at , ?_⟩) | (with_reducible first | refine slice_old ?_ | refine app_grow ?_ | refine W_reg lv17ZnT ?_ | refine W_skip ?_ | refine W_exit ?_ | refine W_ret ?_ | refine end_at0 ?_) | (with_reducible refine And.intro (fun h => ?_) (fun h => ?_)) | (with_reducible refine And.intro (by omega) ?_)); (try simp only [go_sem, seval, reduceCtorEq, h2, h3, lv17ZnT, Try.ntmps17, Try.results17, TkS]))
            | fail)
        · rw [if_neg h3] at he; exact absurd rfl he
    · rw [if_pos hc]
      repeat' (first
        | (with_reducible first | refine W_seq ?_ | refine W_condT rfl ?_ | refine W_condF rfl ?_ | refine W_tf rfl (fun h => ?_) (fun h => ?_) | refine W_block ?_ | refine endQ_ret ?_ | refine endQ_normal ?_)
        | ((with_reducible first | refine hK _ ?_ | refine hK _ _ ?_); clear hK K)
        | ((first | (with_reducible first | refine ops_cons (fun K hK => ?_) | refine ops_nil ?_ | refine fit_i64 (by omega) ?_ | refine fit_any ?_) | with_reducible refine callV_snap ?_ | ((with_reducible refine call_go TtS Tt_ok ?_); refine ⟨(by first | exact alOk_nil _ | exact alOk_f rfl), _, _, Tt_at , ?_⟩) | (with_reducible first | refine slice_old ?_ | refine app_grow ?_ | refine W_reg lv17ZnT ?_ | refine W_skip ?_ | refine W_exit ?_ | refine W_ret ?_ | refine end_at0 ?_) | (with_reducible refine And.intro (fun h => ?_) (fun h => ?_)) | (with_reducible refine And.intro (by omega) ?_)); (try simp only [go_sem, seval, reduceCtorEq, hc, lv17ZnT, Try.ntmps17, Try.results17, TkS]))
        | fail)
  · have Tt_at := Ttv_at hv
    have hch := choice_at p
    rw [decide_eq_true hp] at hch
    have choice_at : choiceS.rel [iv p] [] (bv true) [] := hch
    have h2 : ¬ (n : Int) < 0 := by omega
    have h3 : ¬ ((tot a.2 + tot b.2 : Nat) : Int) < (n : Int) := by omega
    have ht0 := tot_le hv.fa
    have ht1 := tot_le hv.fb
    repeat' (first
      | (with_reducible first | refine W_seq ?_ | refine W_condT rfl ?_ | refine W_condF rfl ?_ | refine W_tf rfl (fun h => ?_) (fun h => ?_) | refine W_block ?_ | refine endQ_ret ?_ | refine endQ_normal ?_)
      | ((with_reducible first | refine hK _ ?_ | refine hK _ _ ?_); clear hK K)
      | ((first | (with_reducible first | refine ops_cons (fun K hK => ?_) | refine ops_nil ?_ | refine fit_i64 (by omega) ?_ | refine fit_any ?_) | with_reducible refine callV_snap ?_ | ((with_reducible refine call_go TtS Tt_ok ?_); refine ⟨(by first | exact alOk_nil _ | exact alOk_f rfl), _, _, Tt_at , ?_⟩) | ((with_reducible refine call_go choiceS choice_ok ?_); refine ⟨(by first | exact alOk_nil _ | exact alOk_f rfl), _, _, choice_at , ?_⟩) | ((with_reducible refine call_go copiedFS copiedF_ok ?_); refine ⟨(by first | exact alOk_nil _ | exact alOk_f rfl), _, _, copiedF_at a.1 a b hv.l2a hv.l2b, ?_⟩) | (with_reducible first | refine slice_old ?_ | refine app_grow ?_ | refine W_reg lv17ZnT ?_ | refine W_skip ?_ | refine W_exit ?_ | refine W_ret ?_ | refine end_at0 ?_) | (with_reducible refine And.intro (fun h => ?_) (fun h => ?_)) | (with_reducible refine And.intro (by omega) ?_)); (try simp only [go_sem, seval, reduceCtorEq, h2, h3, lv17ZnT, Try.ntmps17, Try.results17, TkS]))
      | fail)
    refine W_adopt 12 3 1 (by decide) (by simp [go_sem]) ?_
    refine W_loop (fun x : Nat × Zn × Zn × List Nat => ⟨[(2, iv p), (6, .ptr 0 0), (11, .ptr 1 0), (12, .row 2 1 0 x.2.2.2.length), (40, iv n), (41, iv x.1)], [some (.box 24 [iv 0, .nil]), some (.box 24 [iv a.1, .d (.sl [[.int .i64 (x.2.1.1 : Int), .sl (x.2.1.2.map encN)], [.int .i64 (x.2.2.1.1 : Int), .sl (x.2.2.1.2.map encN)]])]), some (.rows 3 1 ((nI x.2.2.2).map encDI))]⟩)
      (fun x => x.1 ≤ n ∧ x.2.2.2.length = x.1 ∧ Vzz x.2.1 x.2.2.1 ∧ x.2.1.1 = a.1 ∧ n - x.1 ≤ tot x.2.1.2 + tot x.2.2.1.2 ∧ tkG p (n - x.1) x.2.1 x.2.2.1 x.2.2.2 = R) (fun x => n - x.1) (0, a, b, []) ⟨Nat.zero_le _, rfl, hv, rfl, hn, hR⟩ [1, 2, 3] ?_ ?_
    · simp [go_sem, nI]
    rintro ⟨i, a', b', l⟩ ⟨hi, hll, hv', ha1, hn', hgo⟩
    dsimp only at hi hll hv' ha1 hn' hgo
    clear Tt_at hch choice_at
    by_cases hlt : i < n
    · have hki : (i : Int) < n := by omega
      have hni : n - i = (n - (i + 1)) + 1 := by omega
      rw [hni, tkG] at hgo
      have h0 := alocF_at (q := 0) hv' (by decide) hp
      cases hr : alcZ a' b' 0 p with
      | none => have := alc0_none hr; omega
      | some r =>
        rw [hr] at h0 hgo
        dsimp only at hgo
        rw [ha1] at h0
        have ha := alc_law hv' (by decide) hr
        have ht := alc_tot hv' ha
        have hea := ha.ea
        have alocF_at : alocFS.rel [zzn a.1 a' b', iv 0, iv p] [] (.tup [zzn a.1 r.1 r.2.1, iv r.2.2, iv 0]) [] := h0
        have hlen : (nI l).length = l.length := nI_len l
        have happ : (nI (l ++ [r.2.2])).map encDI = (nI l).map encDI ++ [[.int .i64 (r.2.2 : Int)]] := by rw [nI_app]; simp [encDI]
        have htm : List.take l.length (List.map encDI (nI l)) = List.map encDI (nI l) := List.take_of_length_le (by simp [hlen])
        repeat' (first
          | (with_reducible first | refine W_seq ?_ | refine W_condT rfl ?_ | refine W_condF rfl ?_ | refine W_tf rfl (fun h => ?_) (fun h => ?_) | refine W_block ?_ | refine endQ_ret ?_ | refine endQ_normal ?_)
          | ((with_reducible first | refine hK _ ?_ | refine hK _ _ ?_); clear hK K)
          | ((first | (with_reducible first | refine ops_cons (fun K hK => ?_) | refine ops_nil ?_ | refine fit_i64 (by omega) ?_ | refine fit_any ?_) | with_reducible refine callV_snap ?_ | ((with_reducible refine call_go alocFS alocF_ok ?_); refine ⟨(by first | exact alOk_nil _ | exact alOk_f rfl), _, _, alocF_at , ?_⟩) | (with_reducible first | refine slice_old ?_ | refine app_grow ?_ | refine W_reg lv17ZnT ?_ | refine W_skip ?_ | refine W_exit ?_ | refine W_ret ?_ | refine end_at0 ?_) | (with_reducible refine And.intro (fun h => ?_) (fun h => ?_)) | (with_reducible refine And.intro (by omega) ?_)); (try simp only [go_sem, seval, reduceCtorEq, hki, lv17ZnT, Try.ntmps17, Try.results17, TkS]))
          | fail)
        refine ⟨(i + 1, r.1, r.2.1, l ++ [r.2.2]), [0, 1, 5], ⟨by dsimp only; omega, by simp; omega, ha.v, by dsimp only; omega, by dsimp only; omega, hgo⟩, by dsimp only; omega, ?_⟩
        simp only [happ]
        simp [go_sem, htm, hlen]
    · have hki : ¬ (i : Int) < n := by omega
      rw [show n - i = 0 by omega, tkG] at hgo
      subst hgo
      repeat' (first
        | (with_reducible first | refine W_seq ?_ | refine W_condT rfl ?_ | refine W_condF rfl ?_ | refine W_tf rfl (fun h => ?_) (fun h => ?_) | refine W_block ?_ | refine endQ_ret ?_ | refine endQ_normal ?_)
        | ((with_reducible first | refine hK _ ?_ | refine hK _ _ ?_); clear hK K)
        | ((first | (with_reducible first | refine ops_cons (fun K hK => ?_) | refine ops_nil ?_ | refine fit_i64 (by omega) ?_ | refine fit_any ?_) | with_reducible refine callV_snap ?_ | (with_reducible first | refine slice_old ?_ | refine app_grow ?_ | refine W_reg lv17ZnT ?_ | refine W_skip ?_ | refine W_exit ?_ | refine end_at0 ?_) | (with_reducible refine And.intro (fun h => ?_) (fun h => ?_)) | (with_reducible refine And.intro (by omega) ?_)); (try simp only [go_sem, seval, reduceCtorEq, hki, lv17ZnT, Try.ntmps17, Try.results17, TkS]))
        | fail)
      refine W_ret (endQ_ret (end_at [2] ?_))
      simp [go_sem, Try.results17, TkS]
abbrev TkFS : Spec := frzS TkS
theorem TkF_ok : Ok Try.prog 17 TkFS := frzS_ok Tk_ok
theorem tkF_at {a b : Zn} {n : Nat} {p : Int} {R : Zn × Zn × List Nat} (hv : Vzz a b) (hn : n ≤ tot a.2 + tot b.2) (hp : p = 0 ∨ p = 1) (hR : tkG p n a b [] = R) : TkFS.rel [zzn a.1 a b, iv n, iv p] [] (.tup [zzn a.1 R.1 R.2.1, dI (nI R.2.2), iv 0]) [] :=
  ⟨rfl, rfl, _, _, .inr ⟨a, b, n, p, R, hv, hn, hp, hR, rfl, rfl, rfl, rfl⟩, by simp [frz, frzA, frzAL, frzL, frz1, List.take_of_length_le, nI_len]⟩
end Go.Proofs.Ytacfipmigkbncaa
