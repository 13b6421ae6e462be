/- zones.Take, Has, ZonesAll, by the engine. -/
import Derived.Test.YtacfipmigkbncaaZnL
namespace Go.Proofs.Ytacfipmigkbncaa
open Go.RowKit
set_option maxRecDepth 100000
set_option linter.unusedSimpArgs false
set_option linter.unusedVariables false

abbrev lv10ZnM : List (Nat × List Nat) := [(0, [0, 1]), (1, [1, 5, 7]), (2, [1, 5, 7, 8, 9]), (3, [1, 5, 8, 33]), (4, [4]), (5, [5, 8, 9, 10, 11]), (6, [5, 8, 9, 11, 12, 13]), (7, [5, 11, 63]), (8, [4]), (9, [5, 11, 14]), (10, [5, 11, 14, 67]), (11, [5, 11, 14]), (12, [5, 11, 14, 15, 16]), (13, [5, 11, 14, 94]), (14, [4]), (15, [4])]
abbrev lv17ZnM : List (Nat × List Nat) := [(0, [1, 2, 3, 6]), (1, [1, 2, 3, 6, 9, 10]), (2, [1, 2, 3, 6, 9, 10, 22]), (3, [6, 7, 8]), (4, [1, 2, 3, 6, 9, 31]), (5, [6, 7, 8]), (6, [1, 2, 3, 6, 35]), (7, [6, 7, 8]), (8, [1, 2, 6, 11]), (9, [1, 2, 6, 11, 12]), (10, [2, 6, 11, 12, 40, 41]), (11, [2, 6, 11, 12, 40, 41, 42]), (12, [2, 6, 11, 12, 13, 14, 15, 40, 41]), (13, [2, 6, 11, 12, 13, 14, 15, 40, 41, 51]), (14, [6, 7, 8]), (15, [2, 6, 11, 12, 14, 40, 41]), (16, [2, 6, 11, 12, 40, 41]), (17, [2, 6, 11, 12, 40, 41]), (18, [6, 7, 8])]
abbrev lv37ZnM : List (Nat × List Nat) := [(0, [0, 1]), (1, [0, 1, 5]), (2, [0, 1, 5, 9]), (3, [0, 1, 5]), (4, [0, 1, 5, 17]), (5, [4]), (6, [4])]
def nI (l : List Nat) : List Int := l.map fun x : Nat => (x : Int)
theorem nI_len (l : List Nat) : (nI l).length = l.length := by simp [nI]
theorem nI_app (l : List Nat) (x : Nat) : nI (l ++ [x]) = nI l ++ [(x : Int)] := by simp [nI]
def tkE (low : Int) (zs : List Zo) (n p : Int) : Int := if zzchk low zs ≠ 0 then zzchk low zs else if n < 0 ∨ ¬ (p = 0 ∨ p = 1) then 2 else if (tsE low zs).sum < n then 5 else 0
def TkS : Spec := { al := true, rel := fun args ins res outs => (∃ (low : Int) (zs : List Zo) (n p : Int), zs.length ≤ 1000000 ∧ (∀ z ∈ zs, z.2.length ≤ 1000000) ∧ tkE low zs n p ≠ 0 ∧ args = [zzv low zs, iv n, iv p] ∧ ins = [] ∧ res = .tup [.agg [iv 0, .nil], .nil, iv (tkE low zs n p)] ∧ outs = []) ∨
  (∃ (a b : Zn) (n : Nat) (p : Int) (R : Zn × Zn × List Nat), Vzz a b ∧ n ≤ tot a.2 + tot b.2 ∧ (p = 0 ∨ p = 1) ∧ tkG p n a b [] = R ∧ args = [zzn a.1 a b, iv n, iv p] ∧ ins = [] ∧ res = .tup [zzn a.1 R.1 R.2.1, .row 0 1 0 R.2.2.length, iv 0] ∧ outs = [.rows 3 1 ((nI R.2.2).map encDI)]) }
set_option maxHeartbeats 8000000 in
theorem Tk_ok : Ok Try.prog 17 TkS := by
  refine fn_ok TkS Try.func17 rfl rfl ?_
  rintro args ins res outs (⟨low, zs, n, p, hl, hz, he, rfl, rfl, rfl, rfl⟩ | ⟨a, b, n, p, R, hv, hn, hp, hR, rfl, rfl, rfl, rfl⟩)
  all_goals refine ⟨by simp [Try.ntmps17], fun w0 V Bo mu0 => ?_⟩
  · have T0 := Tt_at low zs hl hz
    unfold tkE at he ⊢
    generalize (tsE low zs).sum = S at *
    generalize zzchk low zs = E at *
    have Tt_at : TtS.rel [zzv low zs] [] (.tup [iv S, iv E]) [] := T0
    by_cases hc : E = 0
    · subst hc
      rw [if_neg (by decide)] at he ⊢
      by_cases h1 : n < 0 ∨ ¬ (p = 0 ∨ p = 1)
      · rw [if_pos h1]
        by_cases h2 : n < 0
        · skip
          repeat' (first
            | (with_reducible first | refine W_seq ?_ | refine W_condT rfl ?_ | refine W_condF rfl ?_ | refine W_tf rfl (fun h => ?_) (fun h => ?_) | refine W_block ?_ | refine endQ_ret ?_ | refine endQ_normal ?_)
            | ((with_reducible first | refine hK _ ?_ | refine hK _ _ ?_); clear hK K)
            | ((first | (with_reducible first | refine ops_cons (fun K hK => ?_) | refine ops_nil ?_ | refine fit_i64 (by omega) ?_ | refine fit_any ?_) | with_reducible refine callV_snap ?_ | ((with_reducible refine call_go TtS Tt_ok ?_); refine ⟨(by first | exact alOk_nil _ | exact alOk_f rfl), _, _, Tt_at , ?_⟩) | (with_reducible first | refine slice_old ?_ | refine app_grow ?_ | refine W_reg lv17ZnM ?_ | refine W_skip ?_ | refine W_exit ?_ | refine W_ret ?_ | refine end_at0 ?_) | (with_reducible refine And.intro (fun h => ?_) (fun h => ?_)) | (with_reducible refine And.intro (by omega) ?_)); (try simp only [go_sem, seval, reduceCtorEq, h2, lv17ZnM, Try.ntmps17, Try.results17, TkS]))
            | fail)
        · have hch := choice_at p
          rw [decide_eq_false (by omega)] at hch
          have choice_at : choiceS.rel [iv p] [] (bv false) [] := hch
          repeat' (first
            | (with_reducible first | refine W_seq ?_ | refine W_condT rfl ?_ | refine W_condF rfl ?_ | refine W_tf rfl (fun h => ?_) (fun h => ?_) | refine W_block ?_ | refine endQ_ret ?_ | refine endQ_normal ?_)
            | ((with_reducible first | refine hK _ ?_ | refine hK _ _ ?_); clear hK K)
            | ((first | (with_reducible first | refine ops_cons (fun K hK => ?_) | refine ops_nil ?_ | refine fit_i64 (by omega) ?_ | refine fit_any ?_) | with_reducible refine callV_snap ?_ | ((with_reducible refine call_go TtS Tt_ok ?_); refine ⟨(by first | exact alOk_nil _ | exact alOk_f rfl), _, _, Tt_at , ?_⟩) | ((with_reducible refine call_go choiceS choice_ok ?_); refine ⟨(by first | exact alOk_nil _ | exact alOk_f rfl), _, _, choice_at , ?_⟩) | (with_reducible first | refine slice_old ?_ | refine app_grow ?_ | refine W_reg lv17ZnM ?_ | refine W_skip ?_ | refine W_exit ?_ | refine W_ret ?_ | refine end_at0 ?_) | (with_reducible refine And.intro (fun h => ?_) (fun h => ?_)) | (with_reducible refine And.intro (by omega) ?_)); (try simp only [go_sem, seval, reduceCtorEq, h2, lv17ZnM, Try.ntmps17, Try.results17, TkS]))
            | fail)
      · rw [if_neg h1] at he ⊢
        by_cases h3 : S < n
        · rw [if_pos h3]
          have h2 : ¬ n < 0 := by omega
          have hch := choice_at p
          rw [decide_eq_true (by omega)] at hch
          have choice_at : choiceS.rel [iv p] [] (bv true) [] := hch
          repeat' (first
            | (with_reducible first | refine W_seq ?_ | refine W_condT rfl ?_ | refine W_condF rfl ?_ | refine W_tf rfl (fun h => ?_) (fun h => ?_) | refine W_block ?_ | refine endQ_ret ?_ | refine endQ_normal ?_)
            | ((with_reducible first | refine hK _ ?_ | refine hK _ _ ?_); clear hK K)
            | ((first | (with_reducible first | refine ops_cons (fun K hK => ?_) | refine ops_nil ?_ | refine fit_i64 (by omega) ?_ | refine fit_any ?_) | with_reducible refine callV_snap ?_ | ((with_reducible refine call_go TtS Tt_ok ?_); refine ⟨(by first | exact alOk_nil _ | exact alOk_f rfl), _, _, Tt_at , ?_⟩) | ((with_reducible refine call_go choiceS choice_ok ?_); refine ⟨(by first | exact alOk_nil _ | exact alOk_f rfl), _, _, choice_at , ?_⟩) | (with_reducible first | refine slice_old ?_ | refine app_grow ?_ | refine W_reg lv17ZnM ?_ | refine W_skip ?_ | refine W_exit ?_ | refine W_ret ?_ | refine end_at0 ?_) | (with_reducible refine And.intro (fun h => ?_) (fun h => ?_)) | (with_reducible refine And.intro (by omega) ?_)); (try simp only [go_sem, seval, reduceCtorEq, h2, h3, lv17ZnM, Try.ntmps17, Try.results17, TkS]))
            | fail)
        · rw [if_neg h3] at he; exact absurd rfl he
    · rw [if_pos hc]
      repeat' (first
        | (with_reducible first | refine W_seq ?_ | refine W_condT rfl ?_ | refine W_condF rfl ?_ | refine W_tf rfl (fun h => ?_) (fun h => ?_) | refine W_block ?_ | refine endQ_ret ?_ | refine endQ_normal ?_)
        | ((with_reducible first | refine hK _ ?_ | refine hK _ _ ?_); clear hK K)
        | ((first | (with_reducible first | refine ops_cons (fun K hK => ?_) | refine ops_nil ?_ | refine fit_i64 (by omega) ?_ | refine fit_any ?_) | with_reducible refine callV_snap ?_ | ((with_reducible refine call_go TtS Tt_ok ?_); refine ⟨(by first | exact alOk_nil _ | exact alOk_f rfl), _, _, Tt_at , ?_⟩) | (with_reducible first | refine slice_old ?_ | refine app_grow ?_ | refine W_reg lv17ZnM ?_ | refine W_skip ?_ | refine W_exit ?_ | refine W_ret ?_ | refine end_at0 ?_) | (with_reducible refine And.intro (fun h => ?_) (fun h => ?_)) | (with_reducible refine And.intro (by omega) ?_)); (try simp only [go_sem, seval, reduceCtorEq, hc, lv17ZnM, Try.ntmps17, Try.results17, TkS]))
        | fail)
  · have Tt_at := Ttv_at hv
    have hch := choice_at p
    rw [decide_eq_true hp] at hch
    have choice_at : choiceS.rel [iv p] [] (bv true) [] := hch
    have h2 : ¬ (n : Int) < 0 := by omega
    have h3 : ¬ ((tot a.2 + tot b.2 : Nat) : Int) < (n : Int) := by omega
    have ht0 := tot_le hv.fa
    have ht1 := tot_le hv.fb
    repeat' (first
      | (with_reducible first | refine W_seq ?_ | refine W_condT rfl ?_ | refine W_condF rfl ?_ | refine W_tf rfl (fun h => ?_) (fun h => ?_) | refine W_block ?_ | refine endQ_ret ?_ | refine endQ_normal ?_)
      | ((with_reducible first | refine hK _ ?_ | refine hK _ _ ?_); clear hK K)
      | ((first | (with_reducible first | refine ops_cons (fun K hK => ?_) | refine ops_nil ?_ | refine fit_i64 (by omega) ?_ | refine fit_any ?_) | with_reducible refine callV_snap ?_ | ((with_reducible refine call_go TtS Tt_ok ?_); refine ⟨(by first | exact alOk_nil _ | exact alOk_f rfl), _, _, Tt_at , ?_⟩) | ((with_reducible refine call_go choiceS choice_ok ?_); refine ⟨(by first | exact alOk_nil _ | exact alOk_f rfl), _, _, choice_at , ?_⟩) | ((with_reducible refine call_go copiedFS copiedF_ok ?_); refine ⟨(by first | exact alOk_nil _ | exact alOk_f rfl), _, _, copiedF_at a.1 a b hv.l2a hv.l2b, ?_⟩) | (with_reducible first | refine slice_old ?_ | refine app_grow ?_ | refine W_reg lv17ZnM ?_ | refine W_skip ?_ | refine W_exit ?_ | refine W_ret ?_ | refine end_at0 ?_) | (with_reducible refine And.intro (fun h => ?_) (fun h => ?_)) | (with_reducible refine And.intro (by omega) ?_)); (try simp only [go_sem, seval, reduceCtorEq, h2, h3, lv17ZnM, Try.ntmps17, Try.results17, TkS]))
      | fail)
    refine W_adopt 12 3 1 (by decide) (by simp [go_sem]) ?_
    refine W_loop (fun x : Nat × Zn × Zn × List Nat => ⟨[(2, iv p), (6, .ptr 0 0), (11, .ptr 1 0), (12, .row 2 1 0 x.2.2.2.length), (40, iv n), (41, iv x.1)], [some (.box 24 [iv 0, .nil]), some (.box 24 [iv a.1, .d (.sl [[.int .i64 (x.2.1.1 : Int), .sl (x.2.1.2.map encN)], [.int .i64 (x.2.2.1.1 : Int), .sl (x.2.2.1.2.map encN)]])]), some (.rows 3 1 ((nI x.2.2.2).map encDI))]⟩)
      (fun x => x.1 ≤ n ∧ x.2.2.2.length = x.1 ∧ Vzz x.2.1 x.2.2.1 ∧ x.2.1.1 = a.1 ∧ n - x.1 ≤ tot x.2.1.2 + tot x.2.2.1.2 ∧ tkG p (n - x.1) x.2.1 x.2.2.1 x.2.2.2 = R) (fun x => n - x.1) (0, a, b, []) ⟨Nat.zero_le _, rfl, hv, rfl, hn, hR⟩ [1, 2, 3] ?_ ?_
    · simp [go_sem, nI]
    rintro ⟨i, a', b', l⟩ ⟨hi, hll, hv', ha1, hn', hgo⟩
    dsimp only at hi hll hv' ha1 hn' hgo
    clear Tt_at hch choice_at
    by_cases hlt : i < n
    · have hki : (i : Int) < n := by omega
      have hni : n - i = (n - (i + 1)) + 1 := by omega
      rw [hni, tkG] at hgo
      have h0 := alocF_at (q := 0) hv' (by decide) hp
      cases hr : alcZ a' b' 0 p with
      | none => have := alc0_none hr; omega
      | some r =>
        rw [hr] at h0 hgo
        dsimp only at hgo
        rw [ha1] at h0
        have ha := alc_law hv' (by decide) hr
        have ht := alc_tot hv' ha
        have hea := ha.ea
        have alocF_at : alocFS.rel [zzn a.1 a' b', iv 0, iv p] [] (.tup [zzn a.1 r.1 r.2.1, iv r.2.2, iv 0]) [] := h0
        have hlen : (nI l).length = l.length := nI_len l
        have happ : (nI (l ++ [r.2.2])).map encDI = (nI l).map encDI ++ [[.int .i64 (r.2.2 : Int)]] := by rw [nI_app]; simp [encDI]
        have htm : List.take l.length (List.map encDI (nI l)) = List.map encDI (nI l) := List.take_of_length_le (by simp [hlen])
        repeat' (first
          | (with_reducible first | refine W_seq ?_ | refine W_condT rfl ?_ | refine W_condF rfl ?_ | refine W_tf rfl (fun h => ?_) (fun h => ?_) | refine W_block ?_ | refine endQ_ret ?_ | refine endQ_normal ?_)
          | ((with_reducible first | refine hK _ ?_ | refine hK _ _ ?_); clear hK K)
          | ((first | (with_reducible first | refine ops_cons (fun K hK => ?_) | refine ops_nil ?_ | refine fit_i64 (by omega) ?_ | refine fit_any ?_) | with_reducible refine callV_snap ?_ | ((with_reducible refine call_go alocFS alocF_ok ?_); refine ⟨(by first | exact alOk_nil _ | exact alOk_f rfl), _, _, alocF_at , ?_⟩) | (with_reducible first | refine slice_old ?_ | refine app_grow ?_ | refine W_reg lv17ZnM ?_ | refine W_skip ?_ | refine W_exit ?_ | refine W_ret ?_ | refine end_at0 ?_) | (with_reducible refine And.intro (fun h => ?_) (fun h => ?_)) | (with_reducible refine And.intro (by omega) ?_)); (try simp only [go_sem, seval, reduceCtorEq, hki, lv17ZnM, Try.ntmps17, Try.results17, TkS]))
          | fail)
        refine ⟨(i + 1, r.1, r.2.1, l ++ [r.2.2]), [0, 1, 5], ⟨by dsimp only; omega, by simp; omega, ha.v, by dsimp only; omega, by dsimp only; omega, hgo⟩, by dsimp only; omega, ?_⟩
        simp only [happ]
        simp [go_sem, htm, hlen]
    · have hki : ¬ (i : Int) < n := by omega
      rw [show n - i = 0 by omega, tkG] at hgo
      subst hgo
      repeat' (first
        | (with_reducible first | refine W_seq ?_ | refine W_condT rfl ?_ | refine W_condF rfl ?_ | refine W_tf rfl (fun h => ?_) (fun h => ?_) | refine W_block ?_ | refine endQ_ret ?_ | refine endQ_normal ?_)
        | ((with_reducible first | refine hK _ ?_ | refine hK _ _ ?_); clear hK K)
        | ((first | (with_reducible first | refine ops_cons (fun K hK => ?_) | refine ops_nil ?_ | refine fit_i64 (by omega) ?_ | refine fit_any ?_) | with_reducible refine callV_snap ?_ | (with_reducible first | refine slice_old ?_ | refine app_grow ?_ | refine W_reg lv17ZnM ?_ | refine W_skip ?_ | refine W_exit ?_ | refine end_at0 ?_) | (with_reducible refine And.intro (fun h => ?_) (fun h => ?_)) | (with_reducible refine And.intro (by omega) ?_)); (try simp only [go_sem, seval, reduceCtorEq, hki, lv17ZnM, Try.ntmps17, Try.results17, TkS]))
        | fail)
      refine W_ret (endQ_ret (end_at [2] ?_))
      simp [go_sem, Try.results17, TkS]
abbrev TkFS : Spec := frzS TkS
theorem TkF_ok : Ok Try.prog 17 TkFS := frzS_ok Tk_ok
theorem tkF_at {a b : Zn} {n : Nat} {p : Int} {R : Zn × Zn × List Nat} (hv : Vzz a b) (hn : n ≤ tot a.2 + tot b.2) (hp : p = 0 ∨ p = 1) (hR : tkG p n a b [] = R) : TkFS.rel [zzn a.1 a b, iv n, iv p] [] (.tup [zzn a.1 R.1 R.2.1, dI (nI R.2.2), iv 0]) [] :=
  ⟨rfl, rfl, _, _, .inr ⟨a, b, n, p, R, hv, hn, hp, hR, rfl, rfl, rfl, rfl⟩, by simp [frz, frzA, frzAL, frzL, frz1, List.take_of_length_le, nI_len]⟩
def HasS : Spec := { rel := fun args ins res outs => ∃ (l : List Int) (x : Int), l.length ≤ 1000000 ∧ args = [dI l, iv x] ∧ ins = [] ∧ res = bv (decide (x ∈ l)) ∧ outs = [] }
set_option maxHeartbeats 1000000 in
theorem Has_ok : Ok Try.prog 37 HasS := by
  refine fn_ok HasS Try.func37 rfl rfl ?_
  rintro args ins res outs ⟨l, x, hl6, rfl, rfl, rfl, rfl⟩
  refine ⟨by simp [Try.ntmps37], fun w0 V Bo mu0 => ?_⟩
  repeat' (first
    | (with_reducible first | refine W_seq ?_ | refine W_condT rfl ?_ | refine W_condF rfl ?_ | refine W_tf rfl (fun h => ?_) (fun h => ?_) | refine W_block ?_ | refine endQ_ret ?_ | refine endQ_normal ?_)
    | ((with_reducible first | refine hK _ ?_ | refine hK _ _ ?_); clear hK K)
    | ((first | (with_reducible first | refine ops_cons (fun K hK => ?_) | refine ops_nil ?_ | refine fit_i64 (by omega) ?_ | refine fit_any ?_) | with_reducible refine callV_snap ?_ | (with_reducible first | refine idx_map (by omega) ?_ | refine W_reg lv37ZnM ?_ | refine W_skip ?_ | refine W_exit ?_ | refine W_ret ?_ | refine end_at0 ?_) | (with_reducible refine And.intro (fun h => ?_) (fun h => ?_)) | (with_reducible refine And.intro (by omega) ?_)); (try simp only [go_sem, seval, reduceCtorEq, lv37ZnM, Try.ntmps37, Try.results37, HasS]))
    | fail)
  refine W_loop (fun k : Nat => ⟨[(0, dI l), (1, iv x), (5, iv k)], []⟩) (fun k => k ≤ l.length ∧ x ∉ l.take k) (fun k => l.length - k) 0 ⟨Nat.zero_le _, by simp⟩ [] ?_ ?_
  · simp [go_sem]
  rintro k ⟨hk, hx⟩
  by_cases hlt : k < l.length
  · have hki : (k : Int) < l.length := by omega
    have e0 : encDI l[k] = [.int .i64 l[k]] := rfl
    by_cases he : l[k] = x
    · rw [decide_eq_true (he ▸ List.getElem_mem hlt)]
      repeat' (first
        | (with_reducible first | refine W_seq ?_ | refine W_condT rfl ?_ | refine W_condF rfl ?_ | refine W_tf rfl (fun h => ?_) (fun h => ?_) | refine W_block ?_ | refine endQ_ret ?_ | refine endQ_normal ?_)
        | ((with_reducible first | refine hK _ ?_ | refine hK _ _ ?_); clear hK K)
        | ((first | (with_reducible first | refine ops_cons (fun K hK => ?_) | refine ops_nil ?_ | refine fit_i64 (by omega) ?_ | refine fit_any ?_) | with_reducible refine callV_snap ?_ | (with_reducible first | refine idx_map (by omega) ?_ | refine W_reg lv37ZnM ?_ | refine W_skip ?_ | refine W_exit ?_ | refine W_ret ?_ | refine end_at0 ?_) | (with_reducible refine And.intro (fun h => ?_) (fun h => ?_)) | (with_reducible refine And.intro (by omega) ?_)); (try simp only [go_sem, seval, reduceCtorEq, hki, encDI, he, lv37ZnM, Try.ntmps37, Try.results37, HasS]))
        | fail)
    · skip
      repeat' (first
        | (with_reducible first | refine W_seq ?_ | refine W_condT rfl ?_ | refine W_condF rfl ?_ | refine W_tf rfl (fun h => ?_) (fun h => ?_) | refine W_block ?_ | refine endQ_ret ?_ | refine endQ_normal ?_)
        | ((with_reducible first | refine hK _ ?_ | refine hK _ _ ?_); clear hK K)
        | ((first | (with_reducible first | refine ops_cons (fun K hK => ?_) | refine ops_nil ?_ | refine fit_i64 (by omega) ?_ | refine fit_any ?_) | with_reducible refine callV_snap ?_ | (with_reducible first | refine idx_map (by omega) ?_ | refine W_reg lv37ZnM ?_ | refine W_skip ?_ | refine W_exit ?_ | refine W_ret ?_ | refine end_at0 ?_) | (with_reducible refine And.intro (fun h => ?_) (fun h => ?_)) | (with_reducible refine And.intro (by omega) ?_)); (try simp only [go_sem, seval, reduceCtorEq, hki, encDI, he, lv37ZnM, Try.ntmps37, Try.results37, HasS]))
        | fail)
      refine ⟨k + 1, [], ⟨by omega, ?_⟩, by omega, ?_⟩
      · rw [take_get l k hlt, List.mem_append]
        rintro (h | h)
        · exact hx h
        · simp at h; exact he h.symm
      · simp [go_sem]
  · have hki : ¬ (k : Int) < l.length := by omega
    obtain rfl : k = l.length := by omega
    rw [List.take_length] at hx
    rw [decide_eq_false hx]
    repeat' (first
      | (with_reducible first | refine W_seq ?_ | refine W_condT rfl ?_ | refine W_condF rfl ?_ | refine W_tf rfl (fun h => ?_) (fun h => ?_) | refine W_block ?_ | refine endQ_ret ?_ | refine endQ_normal ?_)
      | ((with_reducible first | refine hK _ ?_ | refine hK _ _ ?_); clear hK K)
      | ((first | (with_reducible first | refine ops_cons (fun K hK => ?_) | refine ops_nil ?_ | refine fit_i64 (by omega) ?_ | refine fit_any ?_) | with_reducible refine callV_snap ?_ | (with_reducible first | refine idx_map (by omega) ?_ | refine W_reg lv37ZnM ?_ | refine W_skip ?_ | refine W_exit ?_ | refine W_ret ?_ | refine end_at0 ?_) | (with_reducible refine And.intro (fun h => ?_) (fun h => ?_)) | (with_reducible refine And.intro (by omega) ?_)); (try simp only [go_sem, seval, reduceCtorEq, hki, lv37ZnM, Try.ntmps37, Try.results37, HasS]))
      | fail)
def allzS : Spec := { rel := fun args ins res outs => ∃ (nums : List Int) (p : Int), args = [dI nums, iv p] ∧ ins = [] ∧ res = bv true ∧ outs = [] }
set_option maxHeartbeats 8000000 in
theorem allz_ok : Ok Try.prog 10 allzS := by
  refine fn_ok allzS Try.func10 rfl rfl ?_
  rintro args ins res outs ⟨nums, p, rfl, rfl, rfl, rfl⟩
  refine ⟨by simp [Try.ntmps10], fun w0 V Bo mu0 => ?_⟩
  obtain ⟨hg, _⟩ := mad_gz nums
  obtain ⟨⟨a, b, out⟩, hR⟩ : ∃ s, mad nums = s := ⟨_, rfl⟩
  rw [hR] at hg
  have hv : Vzz a b := hg.v
  have mad_at : madS.rel [dI nums] [] (.tup [zzn a.1 a b, .row 0 2 0 out.length, bv true]) [.rows 87 2 (out.map encN)] := ⟨nums, a, b, out, hR, rfl, rfl, rfl, rfl⟩
  have hp : p % 2 = 0 ∨ p % 2 = 1 := by omega
  obtain ⟨P, hP⟩ : ∃ P : Int, p % 2 = P := ⟨_, rfl⟩
  rw [hP] at hp
  have Tt_at := Ttv_at hv
  have ht0 := tot_le hv.fa
  have ht1 := tot_le hv.fb
  obtain ⟨R, hK⟩ : ∃ R, tkG P (tot a.2 + tot b.2) a b [] = R := ⟨_, rfl⟩
  have TkF_at := tkF_at hv (Nat.le_refl _) hp hK
  obtain ⟨v1, v2, v3, v4, l, l1, l2, l3, l4⟩ := tkG_law P (tot a.2 + tot b.2) [] hv (Nat.le_refl _)
  rw [hK] at v1 v2 v3 v4 l1
  rw [List.nil_append] at l1
  rw [l1] at TkF_at
  have Ttx_at : TtxS.rel [zzn a.1 R.1 R.2.1] [] (.tup [iv 0, iv 0]) [] := by
    have := Ttv_at v1
    rwa [v2, show tot R.1.2 + tot R.2.1.2 = 0 by omega] at this
  have hL : (nI l).length = tot a.2 + tot b.2 := by rw [nI_len, l2]
  have hx2 : tot a.2 + tot b.2 ≤ 40000 := by omega
  have hLi : ((nI l).length : Int) = ((tot a.2 + tot b.2 : Nat) : Int) := by omega
  have hI : ∀ i (h : i < (nI l).length), IzS.rel [zzn a.1 a b, iv (nI l)[i]] [] (.tup [bv true, iv 0]) [] := by
    intro i h
    have h' : i < l.length := by rw [nI_len] at h; exact h
    have e : (nI l)[i] = ((l[i] : Nat) : Int) := by simp [nI]
    obtain ⟨m1, m2⟩ := l4 _ (List.getElem_mem h')
    exact .inr ⟨a, b, l[i], hv, m1, by rw [e], rfl, by rw [m2], rfl⟩
  have hH : ∀ i (h : i < (nI l).length), HasS.rel [dI ((nI l).take i), iv (nI l)[i]] [] (bv false) [] := by
    intro i h
    have h' : i < l.length := by rw [nI_len] at h; exact h
    refine ⟨_, _, by rw [List.length_take]; omega, rfl, rfl, ?_, rfl⟩
    have e : (nI l)[i] = ((l[i] : Nat) : Int) := by simp [nI]
    rw [e, decide_eq_false]
    intro hm
    unfold nI at hm
    rw [← List.map_take, List.mem_map] at hm
    obtain ⟨y, hy, he⟩ := hm
    have he' : y = l[i] := by omega
    subst he'
    obtain ⟨j, hj, hj2⟩ := List.mem_iff_getElem.1 hy
    rw [List.getElem_take] at hj2
    have hji : j < i := by simp at hj; omega
    exact absurd hj2 (List.pairwise_iff_getElem.1 l3 j i (by omega) h' hji)
  generalize nI l = L at *
  generalize tot a.2 + tot b.2 = T at *
  repeat' (first
    | (with_reducible first | refine W_seq ?_ | refine W_condT rfl ?_ | refine W_condF rfl ?_ | refine W_tf rfl (fun h => ?_) (fun h => ?_) | refine W_block ?_ | refine endQ_ret ?_ | refine endQ_normal ?_)
    | ((with_reducible first | refine hK _ ?_ | refine hK _ _ ?_); clear hK K)
    | ((first | (with_reducible first | refine ops_cons (fun K hK => ?_) | refine opsd_cons (fun K hK => ?_) | refine ops_nil ?_ | refine fit_i64 (by omega) ?_ | refine fit_any ?_) | ((with_reducible refine opsd_nil ?_); refine And.intro (by kernel_rfl) ?_) | with_reducible refine callV_snap ?_ | ((with_reducible refine call_go madS mad_ok ?_); refine ⟨(by first | exact alOk_nil _ | exact alOk_f rfl), _, _, mad_at , ?_⟩) | ((with_reducible refine call_go TtS Tt_ok ?_); refine ⟨(by first | exact alOk_nil _ | exact alOk_f rfl), _, _, Tt_at , ?_⟩) | ((with_reducible refine call_go ModS Mod_ok ?_); refine ⟨(by first | exact alOk_nil _ | exact alOk_f rfl), _, _, Mod_at p 2 (by omega) (by omega), ?_⟩) | ((with_reducible refine call_go TkFS TkF_ok ?_); refine ⟨(by first | exact alOk_nil _ | exact alOk_f rfl), _, _, TkF_at , ?_⟩) | ((with_reducible refine call_go TtxS Ttx_ok ?_); refine ⟨(by first | exact alOk_nil _ | exact alOk_f rfl), _, _, Ttx_at , ?_⟩) | (with_reducible first | refine slice_old ?_ | refine idx_map (by omega) ?_ | refine W_reg lv10ZnM ?_ | refine W_drw lv10ZnM (by kernel_rfl) ?_ | refine W_skip ?_ | refine W_exit ?_ | refine W_ret ?_ | refine end_at0 ?_) | (with_reducible refine And.intro (fun h => ?_) (fun h => ?_)) | (with_reducible refine And.intro (by omega) ?_)); (try simp only [go_sem, seval, reduceCtorEq, hP, hLi, lv10ZnM, Try.ntmps10, Try.results10, allzS]))
    | fail)
  refine W_loop (fun i : Nat => ⟨[(5, .ptr 0 0), (11, dI L), (14, iv i)], [some (.box 24 [iv a.1, .d (.sl [[.int .i64 (a.1 : Int), .sl (a.2.map encN)], [.int .i64 (b.1 : Int), .sl (b.2.map encN)]])])]⟩) (fun i => i ≤ L.length) (fun i => L.length - i) 0 (Nat.zero_le _) [1] ?_ ?_
  · simp [go_sem]
  intro i hi
  by_cases hlt : i < L.length
  · have hki : (i : Int) < L.length := by omega
    have Iz_at := hI i hlt
    have Has_at := hH i hlt
    have hmt : List.take i (List.map encDI L) = List.map encDI (L.take i) := by rw [List.map_take]
    repeat' (first
      | (with_reducible first | refine W_seq ?_ | refine W_condT rfl ?_ | refine W_condF rfl ?_ | refine W_tf rfl (fun h => ?_) (fun h => ?_) | refine W_block ?_ | refine endQ_ret ?_ | refine endQ_normal ?_)
      | ((with_reducible first | refine hK _ ?_ | refine hK _ _ ?_); clear hK K)
      | ((with_reducible refine And.intro (encI.rows _) ?_))
      | ((first | (with_reducible first | refine ops_cons (fun K hK => ?_) | refine opsd_cons (fun K hK => ?_) | refine ops_nil ?_ | refine fit_i64 (by omega) ?_ | refine fit_any ?_) | ((with_reducible refine opsd_nil ?_); refine And.intro (by kernel_rfl) ?_) | with_reducible refine callV_snap ?_ | ((with_reducible refine call_go IzS Iz_ok ?_); refine ⟨(by first | exact alOk_nil _ | exact alOk_f rfl), _, _, Iz_at , ?_⟩) | ((with_reducible refine call_go HasS Has_ok ?_); refine ⟨(by first | exact alOk_nil _ | exact alOk_f rfl), _, _, Has_at , ?_⟩) | (with_reducible first | refine slice_old ?_ | refine idx_map (by omega) ?_ | refine W_reg lv10ZnM ?_ | refine W_drw lv10ZnM (by kernel_rfl) ?_ | refine W_skip ?_ | refine W_exit ?_ | refine W_ret ?_ | refine end_at0 ?_) | (with_reducible refine And.intro (fun h => ?_) (fun h => ?_)) | (with_reducible refine And.intro (by omega) ?_)); (try simp only [go_sem, seval, reduceCtorEq, hki, encDI, Nat.sub_zero, hmt, lv10ZnM, Try.ntmps10, Try.results10, allzS]))
      | fail)
    refine ⟨i + 1, [0], by omega, by omega, ?_⟩
    simp [go_sem]
  · have hki : ¬ (i : Int) < L.length := by omega
    repeat' (first
      | (with_reducible first | refine W_seq ?_ | refine W_condT rfl ?_ | refine W_condF rfl ?_ | refine W_tf rfl (fun h => ?_) (fun h => ?_) | refine W_block ?_ | refine endQ_ret ?_ | refine endQ_normal ?_)
      | ((with_reducible first | refine hK _ ?_ | refine hK _ _ ?_); clear hK K)
      | ((first | (with_reducible first | refine ops_cons (fun K hK => ?_) | refine opsd_cons (fun K hK => ?_) | refine ops_nil ?_ | refine fit_i64 (by omega) ?_ | refine fit_any ?_) | ((with_reducible refine opsd_nil ?_); refine And.intro (by kernel_rfl) ?_) | with_reducible refine callV_snap ?_ | ((with_reducible refine call_go awkS awk_ok ?_); refine ⟨(by first | exact alOk_nil _ | exact alOk_f rfl), _, _, awk_at , ?_⟩) | (with_reducible first | refine slice_old ?_ | refine idx_map (by omega) ?_ | refine W_reg lv10ZnM ?_ | refine W_drw lv10ZnM (by kernel_rfl) ?_ | refine W_skip ?_ | refine W_exit ?_ | refine W_ret ?_ | refine end_at0 ?_) | (with_reducible refine And.intro (fun h => ?_) (fun h => ?_)) | (with_reducible refine And.intro (by omega) ?_)); (try simp only [go_sem, seval, reduceCtorEq, hki, lv10ZnM, Try.ntmps10, Try.results10, allzS]))
      | fail)
end Go.Proofs.Ytacfipmigkbncaa
