/- A flat memory: the specification's Same, by the engine. -/
import Derived.Test.YtdfolpfibhfmlaaFlAI
namespace Go.Proofs.Ytdfolpfibhfmlaa
open Go.RowKit
set_option maxRecDepth 100000
set_option linter.unusedSimpArgs false
set_option linter.unusedVariables false

abbrev lv23FlAH : List (Nat × List Nat) := [(0, [1, 2, 3]), (1, [1, 2, 3, 8]), (2, [1, 2, 3, 8, 37]), (3, [1, 2, 3, 8]), (4, [1, 2, 3, 8, 54]), (5, [6, 7]), (6, [1, 2, 3, 9]), (7, [1, 2, 3, 9, 57]), (8, [1, 2, 3, 9]), (9, [1, 2, 3, 9, 10]), (10, [1, 2, 3, 9, 10, 12]), (11, [1, 2, 3, 9, 76]), (12, [6, 7]), (13, [6, 7])]
theorem rPg_at (al : List Bool) (mp : List Nat) (cs : List Cl) (p g : Int) (h : U64 mp) (h1 : al.length ≤ 1000000) (h2 : mp.length ≤ 1000000) (h3 : cs.length ≤ 1000000) : rPgS.rel [fm al mp cs, iv p, iv g] [] (.tup [.agg (ctA (pcO al mp cs p g)), iv (mapE al mp cs p g 0)]) [] := ⟨al, mp, cs, p, g, h, h1, h2, h3, rfl, rfl, rfl, rfl⟩
abbrev rPg8S : Spec := PgS
theorem rPg8_ok : Ok Try.prog 21 rPg8S := rPg_ok
theorem rPg8_at (al : List Bool) (mp : List Nat) (cs : List Cl) (p g : Int) (a b c d e f x y : Nat) (M : Int) (h : U64 mp) (h1 : al.length ≤ 1000000) (h2 : mp.length ≤ 1000000) (h3 : cs.length ≤ 1000000) (hC : pcO al mp cs p g = [a, b, c, d, e, f, x, y]) (hM : mapE al mp cs p g 0 = M) :
    rPg8S.rel [fm al mp cs, iv p, iv g] [] (.tup [.agg [wv (a : Int), wv (b : Int), wv (c : Int), wv (d : Int), wv (e : Int), wv (f : Int), wv (x : Int), wv (y : Int)], iv M]) [] := by
  have := rPg_at al mp cs p g h h1 h2 h3
  rw [hC, hM] at this
  exact this
theorem len8 {l : List Nat} (h : l.length = 8) : ∃ a b c d e f g i, l = [a, b, c, d, e, f, g, i] := by
  match l, h with
  | [a, b, c, d, e, f, g, i], _ => exact ⟨a, b, c, d, e, f, g, i, rfl⟩
set_option maxHeartbeats 4000000 in
theorem rSme_ok : Ok Try.prog 23 SmeS := by
  refine fn_ok SmeS Try.func23 rfl rfl ?_
  rintro args ins res outs ⟨al, mp, cs, p, q, hu, la, lm, lc, rfl, rfl, rfl, rfl⟩
  refine ⟨by simp [Try.ntmps23], fun w0 V Bo mu0 => ?_⟩
  have L0 := ask_at al mp cs p q hu la lm (by omega)
  obtain ⟨E, hE⟩ : ∃ E, lvsE al mp cs [p, q] = E := ⟨_, rfl⟩
  rw [hE]
  have hl := @flchk_len al mp cs
  unfold lvsE at hE
  unfold askE29 at L0
  simp only [List.any_cons, List.any_nil, Bool.or_false] at hE
  by_cases h0 : flchk al mp cs = 0
  case neg =>
    rw [if_pos h0] at hE L0
    rw [hE] at L0
    rw [hE] at h0
    have ask_at : askS.rel [fm al mp cs, iv p, iv q] [] (iv E) [] := L0
    rw [if_neg h0]
    repeat' (first
      | (with_reducible first | refine W_seq ?_ | refine W_condT rfl ?_ | refine W_condF rfl ?_ | refine W_tf rfl (fun h => ?_) (fun h => ?_) | refine W_block ?_ | refine endQ_ret ?_ | refine endQ_normal ?_)
      | ((with_reducible first | refine hK _ ?_ | refine hK _ _ ?_); clear hK K)
      | ((first | (with_reducible first | refine ops_cons (fun K hK => ?_) | refine opsd_cons (fun K hK => ?_) | refine ops_nil ?_ | refine fit_i64 (by omega) ?_ | refine fit_any ?_) | ((with_reducible refine opsd_nil ?_); refine And.intro (by kernel_rfl) ?_) | with_reducible refine callV_snap ?_ | ((with_reducible refine call_go askS ask_ok ?_); refine ⟨(by first | exact alOk_nil _ | exact alOk_f rfl), _, _, ask_at , ?_⟩) | (with_reducible first | refine idx_map (by omega) ?_ | refine W_reg lv23FlAH ?_ | refine W_drw lv23FlAH (by kernel_rfl) ?_ | refine W_skip ?_ | refine W_exit ?_ | refine W_ret ?_ | refine end_at0 ?_) | (with_reducible refine And.intro (fun h => ?_) (fun h => ?_)) | (with_reducible refine And.intro (by omega) ?_)); (try simp only [go_sem, seval, reduceCtorEq, h0, lv23FlAH, Try.ntmps23, Try.results23, SmeS]))
      | fail)
  obtain ⟨l1, l2⟩ := hl h0
  rw [if_neg (fun h => h h0)] at hE L0
  by_cases hpq : Prc p ∧ Prc q
  case neg =>
    rw [if_pos hpq] at L0
    have hE2 : E = 2 := by
      rw [← hE, if_pos]
      by_cases h1 : Prc p
      · have h2 : ¬ Prc q := fun h => hpq ⟨h1, h⟩
        simp [h2]
      · simp [h1]
    subst hE2
    have ask_at : askS.rel [fm al mp cs, iv p, iv q] [] (iv 2) [] := L0
    rw [if_neg (by decide)]
    repeat' (first
      | (with_reducible first | refine W_seq ?_ | refine W_condT rfl ?_ | refine W_condF rfl ?_ | refine W_tf rfl (fun h => ?_) (fun h => ?_) | refine W_block ?_ | refine endQ_ret ?_ | refine endQ_normal ?_)
      | ((with_reducible first | refine hK _ ?_ | refine hK _ _ ?_); clear hK K)
      | ((first | (with_reducible first | refine ops_cons (fun K hK => ?_) | refine opsd_cons (fun K hK => ?_) | refine ops_nil ?_ | refine fit_i64 (by omega) ?_ | refine fit_any ?_) | ((with_reducible refine opsd_nil ?_); refine And.intro (by kernel_rfl) ?_) | with_reducible refine callV_snap ?_ | ((with_reducible refine call_go askS ask_ok ?_); refine ⟨(by first | exact alOk_nil _ | exact alOk_f rfl), _, _, ask_at , ?_⟩) | (with_reducible first | refine idx_map (by omega) ?_ | refine W_reg lv23FlAH ?_ | refine W_drw lv23FlAH (by kernel_rfl) ?_ | refine W_skip ?_ | refine W_exit ?_ | refine W_ret ?_ | refine end_at0 ?_) | (with_reducible refine And.intro (fun h => ?_) (fun h => ?_)) | (with_reducible refine And.intro (by omega) ?_)); (try simp only [go_sem, seval, reduceCtorEq, lv23FlAH, Try.ntmps23, Try.results23, SmeS]))
      | fail)
  rw [if_neg (fun h => h hpq)] at L0
  have ask_at : askS.rel [fm al mp cs, iv p, iv q] [] (iv 0) [] := L0
  rw [decide_eq_true hpq.1, decide_eq_true hpq.2, if_neg (by decide)] at hE
  obtain ⟨⟨a1, a2⟩, ⟨b1, b2⟩⟩ := hpq
  obtain ⟨k, rfl⟩ : ∃ k : Nat, p = (k : Int) + 1 := ⟨(p - 1).toNat, by omega⟩
  obtain ⟨j, rfl⟩ : ∃ j : Nat, q = (j : Int) + 1 := ⟨(q - 1).toNat, by omega⟩
  have hka : k < al.length := by omega
  have hja : j < al.length := by omega
  have hkm : k < mp.length := by omega
  have hjm : j < mp.length := by omega
  have hp1 : (k : Int) + 1 - 1 = (k : Int) := by omega
  have hp2 : (j : Int) + 1 - 1 = (j : Int) := by omega
  have hv : alv al ((k : Int) + 1) = al[k] := by unfold alv; rw [hp1]; simp [hka]
  have hw : alv al ((j : Int) + 1) = al[j] := by unfold alv; rw [hp2]; simp [hja]
  rw [hv, hw] at hE
  cases hb : al[k] with
  | false =>
    have ea : encDB al[k] = [.bool false] := by rw [hb]; rfl
    rw [hb] at hE
    simp only [Bool.not_false, Bool.true_or, if_true] at hE
    subst hE
    rw [if_neg (by decide)]
    repeat' (first
      | (with_reducible first | refine W_seq ?_ | refine W_condT rfl ?_ | refine W_condF rfl ?_ | refine W_tf rfl (fun h => ?_) (fun h => ?_) | refine W_block ?_ | refine endQ_ret ?_ | refine endQ_normal ?_)
      | ((with_reducible first | refine hK _ ?_ | refine hK _ _ ?_); clear hK K)
      | ((first | (with_reducible first | refine ops_cons (fun K hK => ?_) | refine opsd_cons (fun K hK => ?_) | refine ops_nil ?_ | refine fit_i64 (by omega) ?_ | refine fit_any ?_) | ((with_reducible refine opsd_nil ?_); refine And.intro (by kernel_rfl) ?_) | with_reducible refine callV_snap ?_ | ((with_reducible refine call_go askS ask_ok ?_); refine ⟨(by first | exact alOk_nil _ | exact alOk_f rfl), _, _, ask_at , ?_⟩) | (with_reducible first | refine idx_map (by omega) ?_ | refine W_reg lv23FlAH ?_ | refine W_drw lv23FlAH (by kernel_rfl) ?_ | refine W_skip ?_ | refine W_exit ?_ | refine W_ret ?_ | refine end_at0 ?_) | (with_reducible refine And.intro (fun h => ?_) (fun h => ?_)) | (with_reducible refine And.intro (by omega) ?_)); (try simp only [go_sem, seval, reduceCtorEq, hp1, hp2, ea, lv23FlAH, Try.ntmps23, Try.results23, SmeS]))
      | fail)
  | true =>
    have ea : encDB al[k] = [.bool true] := by rw [hb]; rfl
    rw [hb] at hE
    cases hc : al[j] with
    | false =>
      have eb : encDB al[j] = [.bool false] := by rw [hc]; rfl
      rw [hc] at hE
      simp only [Bool.not_false, Bool.or_true, if_true] at hE
      subst hE
      rw [if_neg (by decide)]
      repeat' (first
        | (with_reducible first | refine W_seq ?_ | refine W_condT rfl ?_ | refine W_condF rfl ?_ | refine W_tf rfl (fun h => ?_) (fun h => ?_) | refine W_block ?_ | refine endQ_ret ?_ | refine endQ_normal ?_)
        | ((with_reducible first | refine hK _ ?_ | refine hK _ _ ?_); clear hK K)
        | ((first | (with_reducible first | refine ops_cons (fun K hK => ?_) | refine opsd_cons (fun K hK => ?_) | refine ops_nil ?_ | refine fit_i64 (by omega) ?_ | refine fit_any ?_) | ((with_reducible refine opsd_nil ?_); refine And.intro (by kernel_rfl) ?_) | with_reducible refine callV_snap ?_ | ((with_reducible refine call_go askS ask_ok ?_); refine ⟨(by first | exact alOk_nil _ | exact alOk_f rfl), _, _, ask_at , ?_⟩) | (with_reducible first | refine idx_map (by omega) ?_ | refine W_reg lv23FlAH ?_ | refine W_drw lv23FlAH (by kernel_rfl) ?_ | refine W_skip ?_ | refine W_exit ?_ | refine W_ret ?_ | refine end_at0 ?_) | (with_reducible refine And.intro (fun h => ?_) (fun h => ?_)) | (with_reducible refine And.intro (by omega) ?_)); (try simp only [go_sem, seval, reduceCtorEq, hp1, hp2, ea, eb, lv23FlAH, Try.ntmps23, Try.results23, SmeS]))
        | fail)
    | true =>
      have eb : encDB al[j] = [.bool true] := by rw [hc]; rfl
      rw [hc] at hE
      simp only [Bool.not_true, Bool.or_false, Bool.false_eq_true, if_false] at hE
      subst hE
      rw [if_pos rfl]
      have eu : encU mp[k] = [.int .u64 (mp[k] : Int)] := rfl
      have eu2 : encU mp[j] = [.int .u64 (mp[j] : Int)] := rfl
      have hsm : smB mp cs ((k : Int) + 1) ((j : Int) + 1) = decide (mp[k] = mp[j] ∧ zC cs ((k : Int) + 1) = zC cs ((j : Int) + 1)) := by
        unfold smB
        rw [hp1, hp2]
        simp [hkm, hjm]
      rw [hsm]
      by_cases hm : mp[k] = mp[j]
      case neg =>
        have hm' : ¬ (mp[k] : Int) = (mp[j] : Int) := by omega
        rw [decide_eq_false (fun h => hm h.1)]
        repeat' (first
          | (with_reducible first | refine W_seq ?_ | refine W_condT rfl ?_ | refine W_condF rfl ?_ | refine W_tf rfl (fun h => ?_) (fun h => ?_) | refine W_block ?_ | refine endQ_ret ?_ | refine endQ_normal ?_)
          | ((with_reducible first | refine hK _ ?_ | refine hK _ _ ?_); clear hK K)
          | ((first | (with_reducible first | refine ops_cons (fun K hK => ?_) | refine opsd_cons (fun K hK => ?_) | refine ops_nil ?_ | refine fit_i64 (by omega) ?_ | refine fit_any ?_) | ((with_reducible refine opsd_nil ?_); refine And.intro (by kernel_rfl) ?_) | with_reducible refine callV_snap ?_ | ((with_reducible refine call_go askS ask_ok ?_); refine ⟨(by first | exact alOk_nil _ | exact alOk_f rfl), _, _, ask_at , ?_⟩) | (with_reducible first | refine idx_map (by omega) ?_ | refine W_reg lv23FlAH ?_ | refine W_drw lv23FlAH (by kernel_rfl) ?_ | refine W_skip ?_ | refine W_exit ?_ | refine W_ret ?_ | refine end_at0 ?_) | (with_reducible refine And.intro (fun h => ?_) (fun h => ?_)) | (with_reducible refine And.intro (by omega) ?_)); (try simp only [go_sem, seval, reduceCtorEq, hp1, hp2, ea, eb, eu, eu2, hm', lv23FlAH, Try.ntmps23, Try.results23, SmeS]))
          | fail)
      have hm' : (mp[k] : Int) = (mp[j] : Int) := by omega
      have hlv : lvsE al mp cs [(k : Int) + 1, (j : Int) + 1] = 0 := by
        unfold lvsE
        rw [if_neg (fun h => h h0)]
        simp only [List.any_cons, List.any_nil, Bool.or_false, hv, hw, hb, hc]
        rw [decide_eq_true (show Prc ((k : Int) + 1) from ⟨a1, a2⟩), decide_eq_true (show Prc ((j : Int) + 1) from ⟨b1, b2⟩)]
        rfl
      have hiff := zC_iff hlv
      have hd : decide (mp[k] = mp[j] ∧ zC cs ((k : Int) + 1) = zC cs ((j : Int) + 1)) = decide (∀ g : Nat, g < 64 → pcO al mp cs ((k : Int) + 1) g = pcO al mp cs ((j : Int) + 1) g) := by
        rw [decide_eq_decide, hiff]; simp [hm]
      rw [hd]
      have hWs : ∀ c ∈ cs, Wrd c.2.2.1 := fun c hc => (ck1_zero (ckGo_mem cs none (flchk_go h0) c hc)).2.2.1
      repeat' (first
        | (with_reducible first | refine W_seq ?_ | refine W_condT rfl ?_ | refine W_condF rfl ?_ | refine W_tf rfl (fun h => ?_) (fun h => ?_) | refine W_block ?_ | refine endQ_ret ?_ | refine endQ_normal ?_)
        | ((with_reducible first | refine hK _ ?_ | refine hK _ _ ?_); clear hK K)
        | ((first | (with_reducible first | refine ops_cons (fun K hK => ?_) | refine opsd_cons (fun K hK => ?_) | refine ops_nil ?_ | refine fit_i64 (by omega) ?_ | refine fit_any ?_) | ((with_reducible refine opsd_nil ?_); refine And.intro (by kernel_rfl) ?_) | with_reducible refine callV_snap ?_ | ((with_reducible refine call_go askS ask_ok ?_); refine ⟨(by first | exact alOk_nil _ | exact alOk_f rfl), _, _, ask_at , ?_⟩) | (with_reducible first | refine idx_map (by omega) ?_ | refine W_reg lv23FlAH ?_ | refine W_drw lv23FlAH (by kernel_rfl) ?_ | refine W_skip ?_ | refine W_exit ?_ | refine W_ret ?_ | refine end_at0 ?_) | (with_reducible refine And.intro (fun h => ?_) (fun h => ?_)) | (with_reducible refine And.intro (by omega) ?_)); (try simp only [go_sem, seval, reduceCtorEq, hp1, hp2, ea, eb, eu, eu2, hm', lv23FlAH, Try.ntmps23, Try.results23, SmeS]))
        | fail)
      refine W_loop (fun i : Nat => ⟨[(1, iv ((k : Int) + 1)), (2, iv ((j : Int) + 1)), (3, .ptr 0 0), (9, iv (i : Int))], [some (.box 26 [.d (.sl (al.map encDB)), .d (.sl (mp.map encU)), .d (.sl (cs.map encCl))])]⟩) (fun i => i ≤ 64 ∧ ∀ g : Nat, g < i → pcO al mp cs ((k : Int) + 1) g = pcO al mp cs ((j : Int) + 1) g) (fun i => 64 - i) 0 ⟨Nat.zero_le _, fun g h => absurd h (Nat.not_lt_zero _)⟩ [0] ?_ ?_
      · simp [go_sem]
      rintro i ⟨hi, hg⟩
      by_cases hlt : i < 64
      · have hki : (i : Int) < 64 := by omega
        obtain ⟨c0, c1, c2, c3, c4, c5, c6, c7, hC⟩ := len8 (pcO_len (al := al) (mp := mp) hWs ((k : Int) + 1) i)
        obtain ⟨d0, d1, d2, d3, d4, d5, d6, d7, hD⟩ := len8 (pcO_len (al := al) (mp := mp) hWs ((j : Int) + 1) i)
        obtain ⟨M1, hM1⟩ : ∃ M, mapE al mp cs ((k : Int) + 1) i 0 = M := ⟨_, rfl⟩
        obtain ⟨M2, hM2⟩ : ∃ M, mapE al mp cs ((j : Int) + 1) i 0 = M := ⟨_, rfl⟩
        by_cases he : (c0 : Int) = d0 ∧ (c1 : Int) = d1 ∧ (c2 : Int) = d2 ∧ (c3 : Int) = d3 ∧ (c4 : Int) = d4 ∧ (c5 : Int) = d5 ∧ (c6 : Int) = d6 ∧ (c7 : Int) = d7
        · skip
          repeat' (first
            | (with_reducible first | refine W_seq ?_ | refine W_condT rfl ?_ | refine W_condF rfl ?_ | refine W_tf rfl (fun h => ?_) (fun h => ?_) | refine W_block ?_ | refine endQ_ret ?_ | refine endQ_normal ?_)
            | ((with_reducible first | refine hK _ ?_ | refine hK _ _ ?_); clear hK K)
            | ((with_reducible refine And.intro eqt_ct ?_); (try simp only [go_sem, seval, reduceCtorEq]))
            | ((first | (with_reducible first | refine ops_cons (fun K hK => ?_) | refine opsd_cons (fun K hK => ?_) | refine ops_nil ?_ | refine fit_i64 (by omega) ?_ | refine fit_any ?_) | ((with_reducible refine opsd_nil ?_); refine And.intro (by kernel_rfl) ?_) | with_reducible refine callV_snap ?_ | ((with_reducible refine call_go rPg8S rPg8_ok ?_); refine ⟨(by first | exact alOk_nil _ | exact alOk_f rfl), _, _, rPg8_at al mp cs ((k : Int) + 1) i _ _ _ _ _ _ _ _ M1 hu la lm (by omega) hC hM1, ?_⟩) | ((with_reducible refine call_go rPg8S rPg8_ok ?_); refine ⟨(by first | exact alOk_nil _ | exact alOk_f rfl), _, _, rPg8_at al mp cs ((j : Int) + 1) i _ _ _ _ _ _ _ _ M2 hu la lm (by omega) hD hM2, ?_⟩) | (with_reducible first | refine idx_map (by omega) ?_ | refine W_reg lv23FlAH ?_ | refine W_drw lv23FlAH (by kernel_rfl) ?_ | refine W_skip ?_ | refine W_exit ?_ | refine W_ret ?_ | refine end_at0 ?_) | (with_reducible refine And.intro (fun h => ?_) (fun h => ?_)) | (with_reducible refine And.intro (by omega) ?_)); (try simp only [go_sem, seval, reduceCtorEq, hki, he, lv23FlAH, Try.ntmps23, Try.results23, SmeS]))
            | fail)
          refine ⟨i + 1, [0], ⟨by omega, fun g h => ?_⟩, by omega, ?_⟩
          · by_cases hgi : g = i
            · subst hgi
              rw [hC, hD]
              obtain ⟨e0, e1, e2, e3, e4, e5, e6, e7⟩ := he
              simp only [List.cons.injEq, and_true]
              omega
            · exact hg g (by omega)
          · simp [go_sem]
        · rw [decide_eq_false (fun h => he (by
            have := h i hlt
            rw [hC, hD] at this
            simp only [List.cons.injEq, and_true] at this
            omega))]
          repeat' (first
            | (with_reducible first | refine W_seq ?_ | refine W_condT rfl ?_ | refine W_condF rfl ?_ | refine W_tf rfl (fun h => ?_) (fun h => ?_) | refine W_block ?_ | refine endQ_ret ?_ | refine endQ_normal ?_)
            | ((with_reducible first | refine hK _ ?_ | refine hK _ _ ?_); clear hK K)
            | ((with_reducible refine And.intro eqt_ct ?_); (try simp only [go_sem, seval, reduceCtorEq]))
            | ((first | (with_reducible first | refine ops_cons (fun K hK => ?_) | refine opsd_cons (fun K hK => ?_) | refine ops_nil ?_ | refine fit_i64 (by omega) ?_ | refine fit_any ?_) | ((with_reducible refine opsd_nil ?_); refine And.intro (by kernel_rfl) ?_) | with_reducible refine callV_snap ?_ | ((with_reducible refine call_go rPg8S rPg8_ok ?_); refine ⟨(by first | exact alOk_nil _ | exact alOk_f rfl), _, _, rPg8_at al mp cs ((k : Int) + 1) i _ _ _ _ _ _ _ _ M1 hu la lm (by omega) hC hM1, ?_⟩) | ((with_reducible refine call_go rPg8S rPg8_ok ?_); refine ⟨(by first | exact alOk_nil _ | exact alOk_f rfl), _, _, rPg8_at al mp cs ((j : Int) + 1) i _ _ _ _ _ _ _ _ M2 hu la lm (by omega) hD hM2, ?_⟩) | (with_reducible first | refine idx_map (by omega) ?_ | refine W_reg lv23FlAH ?_ | refine W_drw lv23FlAH (by kernel_rfl) ?_ | refine W_skip ?_ | refine W_exit ?_ | refine W_ret ?_ | refine end_at0 ?_) | (with_reducible refine And.intro (fun h => ?_) (fun h => ?_)) | (with_reducible refine And.intro (by omega) ?_)); (try simp only [go_sem, seval, reduceCtorEq, hki, he, lv23FlAH, Try.ntmps23, Try.results23, SmeS]))
            | fail)
      · have hki : ¬ (i : Int) < 64 := by omega
        rw [decide_eq_true (fun g h => hg g (by omega))]
        repeat' (first
          | (with_reducible first | refine W_seq ?_ | refine W_condT rfl ?_ | refine W_condF rfl ?_ | refine W_tf rfl (fun h => ?_) (fun h => ?_) | refine W_block ?_ | refine endQ_ret ?_ | refine endQ_normal ?_)
          | ((with_reducible first | refine hK _ ?_ | refine hK _ _ ?_); clear hK K)
          | ((first | (with_reducible first | refine ops_cons (fun K hK => ?_) | refine opsd_cons (fun K hK => ?_) | refine ops_nil ?_ | refine fit_i64 (by omega) ?_ | refine fit_any ?_) | ((with_reducible refine opsd_nil ?_); refine And.intro (by kernel_rfl) ?_) | with_reducible refine callV_snap ?_ | (with_reducible first | refine idx_map (by omega) ?_ | refine W_reg lv23FlAH ?_ | refine W_drw lv23FlAH (by kernel_rfl) ?_ | refine W_skip ?_ | refine W_exit ?_ | refine W_ret ?_ | refine end_at0 ?_) | (with_reducible refine And.intro (fun h => ?_) (fun h => ?_)) | (with_reducible refine And.intro (by omega) ?_)); (try simp only [go_sem, seval, reduceCtorEq, hki, lv23FlAH, Try.ntmps23, Try.results23, SmeS]))
          | fail)
end Go.Proofs.Ytdfolpfibhfmlaa
