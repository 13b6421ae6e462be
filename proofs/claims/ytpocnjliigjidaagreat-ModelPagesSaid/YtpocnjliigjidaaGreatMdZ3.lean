import Derived.Test.YtpocnjliigjidaaGreatMdL
/- Pages behind a trace, both sides; ModelPages, by the engine. -/
namespace Go.Proofs.YtpocnjliigjidaaGreat
open Go.RowKit
set_option maxRecDepth 100000
set_option linter.unusedSimpArgs false
set_option linter.unusedVariables false
abbrev lv3MdZ3 : List (Nat × List Nat) := [(0, [0, 1, 2]), (1, [0, 1, 2, 13]), (2, [6]), (3, [0, 1, 2, 7, 8]), (4, [7, 8, 9, 10]), (5, [6])]
abbrev lv7MdZ3 : List (Nat × List Nat) := [(0, [0, 1, 2, 6]), (1, [1, 2, 6, 8, 9]), (2, [1, 2, 6, 8, 9, 16]), (3, [6, 7]), (4, [6, 7])]
abbrev lv9MdZ3 : List (Nat × List Nat) := [(0, [0, 1, 2, 6]), (1, [1, 2, 6, 8, 9]), (2, [1, 2, 6, 8, 9, 16]), (3, [6, 7]), (4, [6, 7])]
theorem wk_vs : ∀ (l : List Oc) {s : Sy}, Vs s → (∀ x ∈ l, ocE x = 0) → Vs (wk s l).2
  | [], s, hs, _ => hs
  | x :: l, s, hs, h => by
    rw [wk]
    cases hn : nx s x with
    | none => exact hs
    | some t => exact wk_vs l (nx_vs hs (h x (by simp)) hn) fun y hy => h y (by simp [hy])
theorem aft_vs {l : List Oc} (h : afE l = 0) : Vs (afT l) := by
  have h0 : (trE l).1 = 0 := by
    unfold afE at h
    split at h
    · cases h
    · exact h
  have e1 : afT l = (wk sy0 l).2 := by unfold afT tlS; rw [if_pos h, if_pos h0]
  rw [e1]
  exact wk_vs l sy0_vs (trE_ok h0).2
def pgO (l : List Oc) (p g : Int) : List Nat := if afE l = 0 then pcO (afT l).m.1 (afT l).m.2.1 (afT l).m.2.2 p g else [0, 0, 0, 0, 0, 0, 0, 0]
def pgE (l : List Oc) (p g : Int) : Int := if afE l = 0 then mapE (afT l).m.1 (afT l).m.2.1 (afT l).m.2.2 p g 0 else afE l
def mPgS : Spec := { al := true, rel := fun args ins res outs => ∃ (l : List Oc) (p g : Int), l.length ≤ 1000000 ∧ args = [ocL l, iv p, iv g] ∧ ins = [] ∧ res = .tup [.agg (ctA (pgO l p g)), iv (pgE l p g)] ∧ outs = [] }
theorem mPg_at (l : List Oc) (p g : Int) (h : l.length ≤ 1000000) : mPgS.rel [ocL l, iv p, iv g] [] (.tup [.agg (ctA (pgO l p g)), iv (pgE l p g)]) [] := ⟨l, p, g, h, rfl, rfl, rfl, rfl⟩
theorem pcO_8 (al : List Bool) (mp : List Nat) (cs : List Cl) (p g : Int) : (pcO al mp cs p g).length = 8 := by
  by_cases h : mapE al mp cs p g 0 = 0
  · exact pcO_len (flchk_wrd (lvs_zero (mapE_zero h).1).1) p g
  · unfold pcO; rw [if_neg h]; rfl
theorem mPg_ok : Ok Tryz.prog 7 mPgS := by
  refine fn_ok mPgS Tryz.func7 rfl rfl ?_
  rintro args ins res outs ⟨l, p, g, hl, rfl, rfl, rfl, rfl⟩
  refine ⟨by simp [Tryz.ntmps7], fun w0 V Bo mu0 => ?_⟩
  have A0 := aftr_at l hl
  unfold pgO pgE
  by_cases he : afE l = 0
  case neg =>
    rw [if_neg he, if_neg he]
    generalize afE l = E at *
    generalize afT l = S at *
    have aftr_at : aftrS.rel [ocL l] [] (.tup [syA S, iv E]) [] := A0
    repeat' (first | refine sA ?_ | with_reducible refine W_tf rfl (fun h => ?_) (fun h => ?_) | ((with_reducible first | refine hK _ ?_ | refine hK _ _ ?_); clear hK K) | ((first | refine sB ?_ | (with_reducible first | refine ops_cons (fun K hK => ?_) | refine W_reg lv7MdZ3 ?_) | with_reducible refine callV_snap ?_ | ((with_reducible refine call_go aftrS aftr_ok ?_); refine ⟨alk, _, _, aftr_at , ?_⟩) | with_reducible refine And.intro (fun h => ?_) (fun h => ?_) | with_reducible refine And.intro (by omega) ?_); (try simp only [go_sem, seval, reduceCtorEq, he, lv7MdZ3, Tryz.ntmps7, Tryz.results7, mPgS])) | fail)
    all_goals (simp [ctA]; rfl)
  rw [if_pos he, if_pos he]
  have hv := aft_vs he
  rw [he] at A0
  generalize afT l = S at *
  have aftr_at : aftrS.rel [ocL l] [] (.tup [syA S, iv 0]) [] := A0
  have P0 := Pg_at S.m.1 S.m.2.1 S.m.2.2 p g hv.v.u (by have := hv.v.la; omega) (by have := hv.v.lm; omega) (by have := vl_len hv.v; omega)
  have hc := pcO_8 S.m.1 S.m.2.1 S.m.2.2 p g
  obtain ⟨c, hce⟩ : ∃ c, pcO S.m.1 S.m.2.1 S.m.2.2 p g = c := ⟨_, rfl⟩
  have P1 : PgS.rel [fm S.m.1 S.m.2.1 S.m.2.2, iv p, iv g] [] (.tup [.agg (ctA c), iv (mapE S.m.1 S.m.2.1 S.m.2.2 p g 0)]) [] := by rw [← hce]; exact P0
  rw [hce] at hc ⊢
  clear P0 hce
  generalize mapE S.m.1 S.m.2.1 S.m.2.2 p g 0 = E at *
  match c, hc with
  | [c0, c1, c2, c3, c4, c5, c6, c7], _ =>
  have Pg_at : PgS.rel [fm S.m.1 S.m.2.1 S.m.2.2, iv p, iv g] [] (.tup [.agg [wv (c0 : Int), wv (c1 : Int), wv (c2 : Int), wv (c3 : Int), wv (c4 : Int), wv (c5 : Int), wv (c6 : Int), wv (c7 : Int)], iv E]) [] := P1
  repeat' (first | refine sA ?_ | with_reducible refine W_tf rfl (fun h => ?_) (fun h => ?_) | ((with_reducible first | refine hK _ ?_ | refine hK _ _ ?_); clear hK K) | ((first | refine sB ?_ | (with_reducible first | refine ops_cons (fun K hK => ?_) | refine W_reg lv7MdZ3 ?_) | with_reducible refine callV_snap ?_ | ((with_reducible refine call_go aftrS aftr_ok ?_); refine ⟨alk, _, _, aftr_at , ?_⟩) | ((with_reducible refine call_go PgS Pg_ok ?_); refine ⟨alk, _, _, Pg_at , ?_⟩) | with_reducible refine And.intro (fun h => ?_) (fun h => ?_) | with_reducible refine And.intro (by omega) ?_); (try simp only [go_sem, seval, reduceCtorEq, lv7MdZ3, Tryz.ntmps7, Tryz.results7, mPgS])) | fail)
  all_goals (simp [ctA]; rfl)
theorem rmPg_ok : Ok Tryz.prog 9 mPgS := by
  refine fn_ok mPgS Tryz.func9 rfl rfl ?_
  rintro args ins res outs ⟨l, p, g, hl, rfl, rfl, rfl, rfl⟩
  refine ⟨by simp [Tryz.ntmps9], fun w0 V Bo mu0 => ?_⟩
  have A0 := raftr_at l hl
  unfold pgO pgE
  by_cases he : afE l = 0
  case neg =>
    rw [if_neg he, if_neg he]
    generalize afE l = E at *
    generalize afT l = S at *
    have raftr_at : raftrS.rel [ocL l] [] (.tup [syA S, iv E]) [] := A0
    repeat' (first | refine sA ?_ | with_reducible refine W_tf rfl (fun h => ?_) (fun h => ?_) | ((with_reducible first | refine hK _ ?_ | refine hK _ _ ?_); clear hK K) | ((first | refine sB ?_ | (with_reducible first | refine ops_cons (fun K hK => ?_) | refine W_reg lv9MdZ3 ?_) | with_reducible refine callV_snap ?_ | ((with_reducible refine call_go raftrS raftr_ok ?_); refine ⟨alk, _, _, raftr_at , ?_⟩) | with_reducible refine And.intro (fun h => ?_) (fun h => ?_) | with_reducible refine And.intro (by omega) ?_); (try simp only [go_sem, seval, reduceCtorEq, he, lv9MdZ3, Tryz.ntmps9, Tryz.results9, mPgS])) | fail)
    all_goals (simp [ctA]; rfl)
  rw [if_pos he, if_pos he]
  have hv := aft_vs he
  rw [he] at A0
  generalize afT l = S at *
  have raftr_at : raftrS.rel [ocL l] [] (.tup [syA S, iv 0]) [] := A0
  have P0 := rPg_at S.m.1 S.m.2.1 S.m.2.2 p g hv.v.u (by have := hv.v.la; omega) (by have := hv.v.lm; omega) (by have := vl_len hv.v; omega)
  have hc := pcO_8 S.m.1 S.m.2.1 S.m.2.2 p g
  obtain ⟨c, hce⟩ : ∃ c, pcO S.m.1 S.m.2.1 S.m.2.2 p g = c := ⟨_, rfl⟩
  have P1 : rPgS.rel [fm S.m.1 S.m.2.1 S.m.2.2, iv p, iv g] [] (.tup [.agg (ctA c), iv (mapE S.m.1 S.m.2.1 S.m.2.2 p g 0)]) [] := by rw [← hce]; exact P0
  rw [hce] at hc ⊢
  clear P0 hce
  generalize mapE S.m.1 S.m.2.1 S.m.2.2 p g 0 = E at *
  match c, hc with
  | [c0, c1, c2, c3, c4, c5, c6, c7], _ =>
  have rPg_at : rPgS.rel [fm S.m.1 S.m.2.1 S.m.2.2, iv p, iv g] [] (.tup [.agg [wv (c0 : Int), wv (c1 : Int), wv (c2 : Int), wv (c3 : Int), wv (c4 : Int), wv (c5 : Int), wv (c6 : Int), wv (c7 : Int)], iv E]) [] := P1
  repeat' (first | refine sA ?_ | with_reducible refine W_tf rfl (fun h => ?_) (fun h => ?_) | ((with_reducible first | refine hK _ ?_ | refine hK _ _ ?_); clear hK K) | ((first | refine sB ?_ | (with_reducible first | refine ops_cons (fun K hK => ?_) | refine W_reg lv9MdZ3 ?_) | with_reducible refine callV_snap ?_ | ((with_reducible refine call_go raftrS raftr_ok ?_); refine ⟨alk, _, _, raftr_at , ?_⟩) | ((with_reducible refine call_go rPgS rPg_ok ?_); refine ⟨alk, _, _, rPg_at , ?_⟩) | with_reducible refine And.intro (fun h => ?_) (fun h => ?_) | with_reducible refine And.intro (by omega) ?_); (try simp only [go_sem, seval, reduceCtorEq, lv9MdZ3, Tryz.ntmps9, Tryz.results9, mPgS])) | fail)
  all_goals (simp [ctA]; rfl)
abbrev rmPgS : Spec := mPgS
def OwoS2 : Spec := { al := true, rel := fun args ins res outs => ∃ c : List Oc, c.length ≤ 1000000 ∧ args = [ocL c] ∧ ins = [] ∧ res = .row 0 7 0 c.length ∧ outs = [.rows 51 7 (c.map encOc)] }
theorem Owo_ok2 : Ok Tryz.prog 8 OwoS2 := by
  refine fn_ok OwoS2 Tryz.func8 rfl rfl ?_
  rintro args ins res outs ⟨c, hc, rfl, rfl, rfl, rfl⟩
  refine ⟨by simp [Tryz.ntmps8], fun w0 V Bo mu0 => ?_⟩
  repeat' (first | refine sA ?_ | ((with_reducible first | refine hK _ ?_ | refine hK _ _ ?_); clear hK K) | ((with_reducible refine And.intro (encOce.rows _) ?_)) | ((first | refine sC ?_ | (with_reducible first | refine ops_cons (fun K hK => ?_) | refine W_reg [(0, [0]), (1, [2])] ?_) | with_reducible refine callV_snap ?_ | with_reducible refine And.intro (fun h => ?_) (fun h => ?_) | with_reducible refine And.intro (by omega) ?_); (try simp only [go_sem, seval, reduceCtorEq, Tryz.ntmps8, Tryz.results8, OwoS2])) | fail)
  refine W_ret (endQ_ret (end_at [1] ?_))
  have := encOce.flat c
  simp [go_sem, Tryz.results8, OwoS2]
def OwoFS : Spec := { al := true, rel := fun args ins res outs => ∃ c : List Oc, c.length ≤ 1000000 ∧ args = [ocL c] ∧ ins = [] ∧ res = ocL c ∧ outs = [] }
theorem OwoF_at (c : List Oc) (h : c.length ≤ 1000000) : OwoFS.rel [ocL c] [] (ocL c) [] := ⟨c, h, rfl, rfl, rfl, rfl⟩
theorem OwoF_ok : Ok Tryz.prog 8 OwoFS := by
  refine ok_frz Owo_ok2 OwoFS rfl ?_
  rintro args ins res outs ⟨c, h, rfl, rfl, rfl, rfl⟩
  exact ⟨rfl, rfl, _, _, ⟨c, h, rfl, rfl, rfl, rfl⟩, by simp [frz, frzA, frz1, List.take_of_length_le]⟩
def mpagS : Spec := { al := true, rel := fun args ins res outs => ∃ (l : List Oc) (p g : Int), args = [ocL l, iv p, iv g] ∧ ins = [] ∧ res = bv true ∧ outs = [] }
set_option maxHeartbeats 1000000 in
theorem mpag_ok : Ok Tryz.prog 3 mpagS := by
  refine fn_ok mpagS Tryz.func3 rfl rfl ?_
  rintro args ins res outs ⟨l, p, g, rfl, rfl, rfl, rfl⟩
  refine ⟨by simp [Tryz.ntmps3], fun w0 V Bo mu0 => ?_⟩
  by_cases hl : 100 < (l.length : Int)
  · skip
    repeat' (first | refine sA ?_ | with_reducible refine W_tf rfl (fun h => ?_) (fun h => ?_) | ((with_reducible first | refine hK _ ?_ | refine hK _ _ ?_); clear hK K) | ((first | refine sB ?_ | (with_reducible first | refine ops_cons (fun K hK => ?_) | refine W_reg lv3MdZ3 ?_) | with_reducible refine callV_snap ?_ | ((with_reducible refine call_go awkS awk_ok ?_); refine ⟨alk, _, _, awk_at , ?_⟩) | with_reducible refine And.intro (fun h => ?_) (fun h => ?_) | with_reducible refine And.intro (by omega) ?_); (try simp only [go_sem, seval, reduceCtorEq, hl, lv3MdZ3, Tryz.ntmps3, Tryz.results3, mpagS])) | fail)
  have OwoF_at := OwoF_at l (by omega)
  have M0 := mPg_at l p g (by omega)
  have hc : (pgO l p g).length = 8 := by unfold pgO; split; exact pcO_8 _ _ _ _ _; rfl
  generalize pgO l p g = c at *
  generalize pgE l p g = E at *
  match c, hc with
  | [c0, c1, c2, c3, c4, c5, c6, c7], _ =>
  have mPg_at : mPgS.rel [ocL l, iv p, iv g] [] (.tup [.agg [wv (c0 : Int), wv (c1 : Int), wv (c2 : Int), wv (c3 : Int), wv (c4 : Int), wv (c5 : Int), wv (c6 : Int), wv (c7 : Int)], iv E]) [] := M0
  have rmPg_at : rmPgS.rel [ocL l, iv p, iv g] [] (.tup [.agg [wv (c0 : Int), wv (c1 : Int), wv (c2 : Int), wv (c3 : Int), wv (c4 : Int), wv (c5 : Int), wv (c6 : Int), wv (c7 : Int)], iv E]) [] := M0
  have rmPg_ok : Ok Tryz.prog 9 rmPgS := rmPg_ok
  repeat' (first | refine sA ?_ | with_reducible refine W_tf rfl (fun h => ?_) (fun h => ?_) | ((with_reducible first | refine hK _ ?_ | refine hK _ _ ?_); clear hK K) | ((with_reducible refine And.intro eqt_ct ?_); (try simp only [go_sem, seval, reduceCtorEq])) | ((first | refine sB ?_ | (with_reducible first | refine ops_cons (fun K hK => ?_) | refine W_reg lv3MdZ3 ?_) | with_reducible refine callV_snap ?_ | ((with_reducible refine call_go OwoFS OwoF_ok ?_); refine ⟨alk, _, _, OwoF_at , ?_⟩) | ((with_reducible refine call_go mPgS mPg_ok ?_); refine ⟨alk, _, _, mPg_at , ?_⟩) | ((with_reducible refine call_go rmPgS rmPg_ok ?_); refine ⟨alk, _, _, rmPg_at , ?_⟩) | ((with_reducible refine call_go awkS awk_ok ?_); refine ⟨alk, _, _, awk_at , ?_⟩) | with_reducible refine And.intro (fun h => ?_) (fun h => ?_) | with_reducible refine And.intro (by omega) ?_); (try simp only [go_sem, seval, reduceCtorEq, hl, lv3MdZ3, Tryz.ntmps3, Tryz.results3, mpagS])) | fail)
  all_goals trace_state
end Go.Proofs.YtpocnjliigjidaaGreat
