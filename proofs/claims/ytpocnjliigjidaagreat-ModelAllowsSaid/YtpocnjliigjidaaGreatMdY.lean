import Derived.Test.YtpocnjliigjidaaGreatMdX
/- The reference's memory behind an outcome, the story behind an outcome and behind a trace. -/
namespace Go.Proofs.YtpocnjliigjidaaGreat
open Go.RowKit
set_option maxRecDepth 100000
set_option linter.unusedSimpArgs false
set_option linter.unusedVariables false
abbrev lv77MdY : List (Nat × List Nat) := [(0, [2, 3, 4]), (1, [2, 3, 4, 6]), (2, [2, 3, 4, 6, 12]), (3, [2, 3, 4, 6, 12, 13]), (4, [2, 4, 6]), (5, [2, 3, 4, 6, 12, 26]), (6, [2, 4, 6]), (7, [2, 3, 4, 6, 12, 39]), (8, [2, 3, 4, 6, 12, 39]), (9, [2, 4, 6]), (10, [2, 3, 4, 6, 12, 49]), (11, [2, 4, 8]), (12, [4, 5]), (13, [2, 3, 4, 6, 12, 65]), (14, [2, 3, 4, 9, 10]), (15, [4, 5]), (16, [2, 3, 4, 6, 12, 87]), (17, [2, 4, 6]), (18, [2, 3, 4, 6, 12, 102]), (19, [2, 4, 6]), (20, [2, 3, 4, 6, 12, 111]), (21, [2, 4, 6]), (22, [2, 3, 4, 6, 122]), (23, [4, 5]), (24, [4, 5])]
def rnx (s : Sy) (x : Oc) : Sy := if x.k = 9 then ⟨s.m, s.W.set (ix x.p) x.t, x.t⟩ else ⟨(opO x s.m).1, s.W.set (ix x.p) 0, s.L⟩
theorem rnx_eq (s : Sy) (x : Oc) : nx s x = if (nx s x).isSome = true then some (rnx s x) else none := by
  unfold nx rnx
  by_cases h9 : x.k = 9
  · rw [if_pos h9, if_pos h9]; split <;> rfl
  · rw [if_neg h9, if_neg h9]; split <;> rfl
def MemR (n : Nat) (args : List AV) (ins : List Ob) (res : AV) (outs : List Ob) : Prop := ∃ (s : Sy) (x : Oc), Vs s ∧ ocE x = 0 ∧ x.k = (n : Int) ∧ args = [fm s.m.1 s.m.2.1 s.m.2.2, ocA x] ∧ ins = [] ∧ res = .tup [fm (opO x s.m).1.1 (opO x s.m).1.2.1 (opO x s.m).1.2.2, bv (decide ((opO x s.m).2 = 0))] ∧ outs = []
def Me1S : Spec := { al := true, rel := fun args ins res outs => MemR 1 args ins res outs }
set_option maxHeartbeats 2000000 in
theorem me1_ok : Ok Tryz.prog 77 Me1S := by
  refine fn_ok Me1S Tryz.func77 rfl rfl ?_
  rintro args ins res outs ⟨s, x, hv, h0, hk, rfl, rfl, rfl, rfl⟩
  refine ⟨by simp [Tryz.ntmps77], fun w0 V Bo mu0 => ?_⟩
  obtain ⟨al, mp, cs, W, L, q, o, g, w, t, v, rfl, rfl, hq, hW, l2, l3, l1, hu, hf, hz⟩ := ru_pre hv h0 hk
  have hn : opO ⟨((1 : Nat) : Int), (q : Int) + 1, o, g, w, t, v⟩ (al, mp, cs) = mapF al mp cs ((q : Int) + 1) g o := by simp [opO, ix_succ, oMp]
  dsimp only
  rw [hn]
  have M0 := rMapF_at al mp cs ((q : Int) + 1) g o hu (by omega) (by omega) (by omega)
  generalize mapF al mp cs ((q : Int) + 1) g o = R at *
  obtain ⟨⟨A, M, C⟩, e⟩ := R
  have rMapF_at : rMapFS.rel [fm al mp cs, iv ((q : Int) + 1), iv g, iv o] [] (.tup [fm A M C, iv e]) [] := M0
  by_cases he : e = 0
  · subst he
    repeat' (first | refine sA ?_ | with_reducible refine W_tf rfl (fun h => ?_) (fun h => ?_) | ((with_reducible first | refine hK _ ?_ | refine hK _ _ ?_); clear hK K) | ((first | refine sB ?_ | (with_reducible first | refine ops_cons (fun K hK => ?_) | refine opsd_cons (fun K hK => ?_) | refine W_reg lv77MdY ?_ | refine W_drw lv77MdY (by kernel_rfl) ?_) | ((with_reducible refine opsd_nil ?_); refine And.intro (by kernel_rfl) ?_) | with_reducible refine callV_snap ?_ | ((with_reducible refine call_go rMapFS rMapF_ok ?_); refine ⟨alk, _, _, rMapF_at , ?_⟩) | with_reducible refine And.intro (fun h => ?_) (fun h => ?_) | with_reducible refine And.intro (by omega) ?_); (try simp only [go_sem, seval, reduceCtorEq, lv77MdY, Tryz.ntmps77, Tryz.results77, Me1S])) | fail)
    all_goals simp
  · rw [decide_eq_false (show ¬ ((A, M, C), e).2 = 0 from he)]
    repeat' (first | refine sA ?_ | with_reducible refine W_tf rfl (fun h => ?_) (fun h => ?_) | ((with_reducible first | refine hK _ ?_ | refine hK _ _ ?_); clear hK K) | ((first | refine sB ?_ | (with_reducible first | refine ops_cons (fun K hK => ?_) | refine opsd_cons (fun K hK => ?_) | refine W_reg lv77MdY ?_ | refine W_drw lv77MdY (by kernel_rfl) ?_) | ((with_reducible refine opsd_nil ?_); refine And.intro (by kernel_rfl) ?_) | with_reducible refine callV_snap ?_ | ((with_reducible refine call_go rMapFS rMapF_ok ?_); refine ⟨alk, _, _, rMapF_at , ?_⟩) | with_reducible refine And.intro (fun h => ?_) (fun h => ?_) | with_reducible refine And.intro (by omega) ?_); (try simp only [go_sem, seval, reduceCtorEq, he, lv77MdY, Tryz.ntmps77, Tryz.results77, Me1S])) | fail)
    all_goals simp
def Me2S : Spec := { al := true, rel := fun args ins res outs => MemR 2 args ins res outs }
set_option maxHeartbeats 2000000 in
theorem me2_ok : Ok Tryz.prog 77 Me2S := by
  refine fn_ok Me2S Tryz.func77 rfl rfl ?_
  rintro args ins res outs ⟨s, x, hv, h0, hk, rfl, rfl, rfl, rfl⟩
  refine ⟨by simp [Tryz.ntmps77], fun w0 V Bo mu0 => ?_⟩
  obtain ⟨al, mp, cs, W, L, q, o, g, w, t, v, rfl, rfl, hq, hW, l2, l3, l1, hu, hf, hz⟩ := ru_pre hv h0 hk
  have hn : opO ⟨((2 : Nat) : Int), (q : Int) + 1, o, g, w, t, v⟩ (al, mp, cs) = unmF al mp cs ((q : Int) + 1) g o := by simp [opO, ix_succ, oUn]
  dsimp only
  rw [hn]
  have M0 := rUnmF_at al mp cs ((q : Int) + 1) g o hu (by omega) (by omega) (by omega)
  generalize unmF al mp cs ((q : Int) + 1) g o = R at *
  obtain ⟨⟨A, M, C⟩, e⟩ := R
  have rUnmF_at : rUnmFS.rel [fm al mp cs, iv ((q : Int) + 1), iv g, iv o] [] (.tup [fm A M C, iv e]) [] := M0
  by_cases he : e = 0
  · subst he
    repeat' (first | refine sA ?_ | with_reducible refine W_tf rfl (fun h => ?_) (fun h => ?_) | ((with_reducible first | refine hK _ ?_ | refine hK _ _ ?_); clear hK K) | ((first | refine sB ?_ | (with_reducible first | refine ops_cons (fun K hK => ?_) | refine opsd_cons (fun K hK => ?_) | refine W_reg lv77MdY ?_ | refine W_drw lv77MdY (by kernel_rfl) ?_) | ((with_reducible refine opsd_nil ?_); refine And.intro (by kernel_rfl) ?_) | with_reducible refine callV_snap ?_ | ((with_reducible refine call_go rUnmFS rUnmF_ok ?_); refine ⟨alk, _, _, rUnmF_at , ?_⟩) | with_reducible refine And.intro (fun h => ?_) (fun h => ?_) | with_reducible refine And.intro (by omega) ?_); (try simp only [go_sem, seval, reduceCtorEq, lv77MdY, Tryz.ntmps77, Tryz.results77, Me2S])) | fail)
    all_goals simp
  · rw [decide_eq_false (show ¬ ((A, M, C), e).2 = 0 from he)]
    repeat' (first | refine sA ?_ | with_reducible refine W_tf rfl (fun h => ?_) (fun h => ?_) | ((with_reducible first | refine hK _ ?_ | refine hK _ _ ?_); clear hK K) | ((first | refine sB ?_ | (with_reducible first | refine ops_cons (fun K hK => ?_) | refine opsd_cons (fun K hK => ?_) | refine W_reg lv77MdY ?_ | refine W_drw lv77MdY (by kernel_rfl) ?_) | ((with_reducible refine opsd_nil ?_); refine And.intro (by kernel_rfl) ?_) | with_reducible refine callV_snap ?_ | ((with_reducible refine call_go rUnmFS rUnmF_ok ?_); refine ⟨alk, _, _, rUnmF_at , ?_⟩) | with_reducible refine And.intro (fun h => ?_) (fun h => ?_) | with_reducible refine And.intro (by omega) ?_); (try simp only [go_sem, seval, reduceCtorEq, he, lv77MdY, Tryz.ntmps77, Tryz.results77, Me2S])) | fail)
    all_goals simp
def Me3S : Spec := { al := true, rel := fun args ins res outs => MemR 3 args ins res outs }
set_option maxHeartbeats 2000000 in
theorem me3_ok : Ok Tryz.prog 77 Me3S := by
  refine fn_ok Me3S Tryz.func77 rfl rfl ?_
  rintro args ins res outs ⟨s, x, hv, h0, hk, rfl, rfl, rfl, rfl⟩
  refine ⟨by simp [Tryz.ntmps77], fun w0 V Bo mu0 => ?_⟩
  obtain ⟨al, mp, cs, W, L, q, o, g, w, t, v, rfl, rfl, hq, hW, l2, l3, l1, hu, hf, hz⟩ := ru_pre hv h0 hk
  have hn : opO ⟨((3 : Nat) : Int), (q : Int) + 1, o, g, w, t, v⟩ (al, mp, cs) = ((al, mp, cs), if mapE al mp cs ((q : Int) + 1) g w = 0 ∧ rdV cs ((q : Int) + 1) g w.toNat = v then 0 else 2) := by simp [opO, ix_succ]
  dsimp only
  rw [hn]
  have R0 := rRd_at al mp cs ((q : Int) + 1) g w hu (by omega) (by omega) (by omega)
  generalize mapE al mp cs ((q : Int) + 1) g w = E at *
  generalize rdV cs ((q : Int) + 1) g w.toNat = r at *
  by_cases hE : E = 0
  · subst hE
    rw [if_pos rfl] at R0
    have rRd_at : rRdS.rel [fm al mp cs, iv ((q : Int) + 1), iv g, iv w] [] (.tup [wv (r : Int), iv 0]) [] := R0
    by_cases hr : r = v
    · subst hr
      rw [if_pos ⟨rfl, rfl⟩]
      repeat' (first | refine sA ?_ | with_reducible refine W_tf rfl (fun h => ?_) (fun h => ?_) | ((with_reducible first | refine hK _ ?_ | refine hK _ _ ?_); clear hK K) | ((first | refine sB ?_ | (with_reducible first | refine ops_cons (fun K hK => ?_) | refine opsd_cons (fun K hK => ?_) | refine W_reg lv77MdY ?_ | refine W_drw lv77MdY (by kernel_rfl) ?_) | ((with_reducible refine opsd_nil ?_); refine And.intro (by kernel_rfl) ?_) | with_reducible refine callV_snap ?_ | ((with_reducible refine call_go rRdS rRd_ok ?_); refine ⟨alk, _, _, rRd_at , ?_⟩) | with_reducible refine And.intro (fun h => ?_) (fun h => ?_) | with_reducible refine And.intro (by omega) ?_); (try simp only [go_sem, seval, reduceCtorEq, lv77MdY, Tryz.ntmps77, Tryz.results77, Me3S])) | fail)
      all_goals simp
    · have hr' : ¬ (r : Int) = (v : Int) := by omega
      rw [if_neg (fun h => hr h.2)]
      repeat' (first | refine sA ?_ | with_reducible refine W_tf rfl (fun h => ?_) (fun h => ?_) | ((with_reducible first | refine hK _ ?_ | refine hK _ _ ?_); clear hK K) | ((first | refine sB ?_ | (with_reducible first | refine ops_cons (fun K hK => ?_) | refine opsd_cons (fun K hK => ?_) | refine W_reg lv77MdY ?_ | refine W_drw lv77MdY (by kernel_rfl) ?_) | ((with_reducible refine opsd_nil ?_); refine And.intro (by kernel_rfl) ?_) | with_reducible refine callV_snap ?_ | ((with_reducible refine call_go rRdS rRd_ok ?_); refine ⟨alk, _, _, rRd_at , ?_⟩) | with_reducible refine And.intro (fun h => ?_) (fun h => ?_) | with_reducible refine And.intro (by omega) ?_); (try simp only [go_sem, seval, reduceCtorEq, hr', lv77MdY, Tryz.ntmps77, Tryz.results77, Me3S])) | fail)
      all_goals simp
  · rw [if_neg (fun h => hE h.1)]
    generalize (if E = 0 then r else 0) = r' at *
    have rRd_at : rRdS.rel [fm al mp cs, iv ((q : Int) + 1), iv g, iv w] [] (.tup [wv (r' : Int), iv E]) [] := R0
    repeat' (first | refine sA ?_ | with_reducible refine W_tf rfl (fun h => ?_) (fun h => ?_) | ((with_reducible first | refine hK _ ?_ | refine hK _ _ ?_); clear hK K) | ((first | refine sB ?_ | (with_reducible first | refine ops_cons (fun K hK => ?_) | refine opsd_cons (fun K hK => ?_) | refine W_reg lv77MdY ?_ | refine W_drw lv77MdY (by kernel_rfl) ?_) | ((with_reducible refine opsd_nil ?_); refine And.intro (by kernel_rfl) ?_) | with_reducible refine callV_snap ?_ | ((with_reducible refine call_go rRdS rRd_ok ?_); refine ⟨alk, _, _, rRd_at , ?_⟩) | with_reducible refine And.intro (fun h => ?_) (fun h => ?_) | with_reducible refine And.intro (by omega) ?_); (try simp only [go_sem, seval, reduceCtorEq, hE, lv77MdY, Tryz.ntmps77, Tryz.results77, Me3S])) | fail)
    all_goals simp
def Me4S : Spec := { al := true, rel := fun args ins res outs => MemR 4 args ins res outs }
set_option maxHeartbeats 2000000 in
theorem me4_ok : Ok Tryz.prog 77 Me4S := by
  refine fn_ok Me4S Tryz.func77 rfl rfl ?_
  rintro args ins res outs ⟨s, x, hv, h0, hk, rfl, rfl, rfl, rfl⟩
  refine ⟨by simp [Tryz.ntmps77], fun w0 V Bo mu0 => ?_⟩
  obtain ⟨al, mp, cs, W, L, q, o, g, w, t, v, rfl, rfl, hq, hW, l2, l3, l1, hu, hf, hz⟩ := ru_pre hv h0 hk
  have hn : opO ⟨((4 : Nat) : Int), (q : Int) + 1, o, g, w, t, v⟩ (al, mp, cs) = wrtF al mp cs ((q : Int) + 1) g w v := by simp [opO, ix_succ, oWr]
  dsimp only
  rw [hn]
  have M0 := rWrtF_at al mp cs ((q : Int) + 1) g w v hu (by omega) (by omega) (by omega)
  generalize wrtF al mp cs ((q : Int) + 1) g w v = R at *
  obtain ⟨⟨A, M, C⟩, e⟩ := R
  have rWrtF_at : rWrtFS.rel [fm al mp cs, iv ((q : Int) + 1), iv g, iv w, wv (v : Int)] [] (.tup [fm A M C, iv e]) [] := M0
  by_cases he : e = 0
  · subst he
    repeat' (first | refine sA ?_ | with_reducible refine W_tf rfl (fun h => ?_) (fun h => ?_) | ((with_reducible first | refine hK _ ?_ | refine hK _ _ ?_); clear hK K) | ((first | refine sB ?_ | (with_reducible first | refine ops_cons (fun K hK => ?_) | refine opsd_cons (fun K hK => ?_) | refine W_reg lv77MdY ?_ | refine W_drw lv77MdY (by kernel_rfl) ?_) | ((with_reducible refine opsd_nil ?_); refine And.intro (by kernel_rfl) ?_) | with_reducible refine callV_snap ?_ | ((with_reducible refine call_go rWrtFS rWrtF_ok ?_); refine ⟨alk, _, _, rWrtF_at , ?_⟩) | with_reducible refine And.intro (fun h => ?_) (fun h => ?_) | with_reducible refine And.intro (by omega) ?_); (try simp only [go_sem, seval, reduceCtorEq, lv77MdY, Tryz.ntmps77, Tryz.results77, Me4S])) | fail)
    all_goals simp
  · rw [decide_eq_false (show ¬ ((A, M, C), e).2 = 0 from he)]
    repeat' (first | refine sA ?_ | with_reducible refine W_tf rfl (fun h => ?_) (fun h => ?_) | ((with_reducible first | refine hK _ ?_ | refine hK _ _ ?_); clear hK K) | ((first | refine sB ?_ | (with_reducible first | refine ops_cons (fun K hK => ?_) | refine opsd_cons (fun K hK => ?_) | refine W_reg lv77MdY ?_ | refine W_drw lv77MdY (by kernel_rfl) ?_) | ((with_reducible refine opsd_nil ?_); refine And.intro (by kernel_rfl) ?_) | with_reducible refine callV_snap ?_ | ((with_reducible refine call_go rWrtFS rWrtF_ok ?_); refine ⟨alk, _, _, rWrtF_at , ?_⟩) | with_reducible refine And.intro (fun h => ?_) (fun h => ?_) | with_reducible refine And.intro (by omega) ?_); (try simp only [go_sem, seval, reduceCtorEq, he, lv77MdY, Tryz.ntmps77, Tryz.results77, Me4S])) | fail)
    all_goals simp
def Me5S : Spec := { al := true, rel := fun args ins res outs => MemR 5 args ins res outs }
set_option maxHeartbeats 2000000 in
theorem me5_ok : Ok Tryz.prog 77 Me5S := by
  refine fn_ok Me5S Tryz.func77 rfl rfl ?_
  rintro args ins res outs ⟨s, x, hv, h0, hk, rfl, rfl, rfl, rfl⟩
  refine ⟨by simp [Tryz.ntmps77], fun w0 V Bo mu0 => ?_⟩
  obtain ⟨al, mp, cs, W, L, q, o, g, w, t, v, rfl, rfl, hq, hW, l2, l3, l1, hu, hf, hz⟩ := ru_pre hv h0 hk
  have ho : 1 ≤ o := by simp [fitO] at hf; omega
  obtain ⟨j, rfl⟩ : ∃ j : Nat, o = (j : Int) + 1 := ⟨(o - 1).toNat, by omega⟩
  have hn : opO ⟨((5 : Nat) : Int), (q : Int) + 1, (j : Int) + 1, g, w, t, v⟩ (al, mp, cs) = frkF al mp cs ((q : Int) + 1) ((j : Int) + 1) := by simp [opO, ix_succ, oFk]
  dsimp only
  rw [hn]
  have M0 := rFrkF_at al mp cs ((q : Int) + 1) ((j : Int) + 1) hu (by omega) (by omega) (by omega)
  generalize frkF al mp cs ((q : Int) + 1) ((j : Int) + 1) = R at *
  obtain ⟨⟨A, M, C⟩, e⟩ := R
  have rFrkF_at : rFrkFS.rel [fm al mp cs, iv ((q : Int) + 1), iv ((j : Int) + 1)] [] (.tup [fm A M C, iv e]) [] := M0
  by_cases he : e = 0
  · subst he
    repeat' (first | refine sA ?_ | with_reducible refine W_tf rfl (fun h => ?_) (fun h => ?_) | ((with_reducible first | refine hK _ ?_ | refine hK _ _ ?_); clear hK K) | ((first | refine sB ?_ | (with_reducible first | refine ops_cons (fun K hK => ?_) | refine opsd_cons (fun K hK => ?_) | refine W_reg lv77MdY ?_ | refine W_drw lv77MdY (by kernel_rfl) ?_) | ((with_reducible refine opsd_nil ?_); refine And.intro (by kernel_rfl) ?_) | with_reducible refine callV_snap ?_ | ((with_reducible refine call_go rFrkFS rFrkF_ok ?_); refine ⟨alk, _, _, rFrkF_at , ?_⟩) | with_reducible refine And.intro (fun h => ?_) (fun h => ?_) | with_reducible refine And.intro (by omega) ?_); (try simp only [go_sem, seval, reduceCtorEq, lv77MdY, Tryz.ntmps77, Tryz.results77, Me5S])) | fail)
    all_goals simp
  · rw [decide_eq_false (show ¬ ((A, M, C), e).2 = 0 from he)]
    repeat' (first | refine sA ?_ | with_reducible refine W_tf rfl (fun h => ?_) (fun h => ?_) | ((with_reducible first | refine hK _ ?_ | refine hK _ _ ?_); clear hK K) | ((first | refine sB ?_ | (with_reducible first | refine ops_cons (fun K hK => ?_) | refine opsd_cons (fun K hK => ?_) | refine W_reg lv77MdY ?_ | refine W_drw lv77MdY (by kernel_rfl) ?_) | ((with_reducible refine opsd_nil ?_); refine And.intro (by kernel_rfl) ?_) | with_reducible refine callV_snap ?_ | ((with_reducible refine call_go rFrkFS rFrkF_ok ?_); refine ⟨alk, _, _, rFrkF_at , ?_⟩) | with_reducible refine And.intro (fun h => ?_) (fun h => ?_) | with_reducible refine And.intro (by omega) ?_); (try simp only [go_sem, seval, reduceCtorEq, he, lv77MdY, Tryz.ntmps77, Tryz.results77, Me5S])) | fail)
    all_goals simp
def Me6S : Spec := { al := true, rel := fun args ins res outs => MemR 6 args ins res outs }
set_option maxHeartbeats 2000000 in
theorem me6_ok : Ok Tryz.prog 77 Me6S := by
  refine fn_ok Me6S Tryz.func77 rfl rfl ?_
  rintro args ins res outs ⟨s, x, hv, h0, hk, rfl, rfl, rfl, rfl⟩
  refine ⟨by simp [Tryz.ntmps77], fun w0 V Bo mu0 => ?_⟩
  obtain ⟨al, mp, cs, W, L, q, o, g, w, t, v, rfl, rfl, hq, hW, l2, l3, l1, hu, hf, hz⟩ := ru_pre hv h0 hk
  have hn : opO ⟨((6 : Nat) : Int), (q : Int) + 1, o, g, w, t, v⟩ (al, mp, cs) = spnF al mp cs ((q : Int) + 1) := by simp [opO, ix_succ, oSp]
  dsimp only
  rw [hn]
  have M0 := rSpnF_at al mp cs ((q : Int) + 1) hu (by omega) (by omega) (by omega)
  generalize spnF al mp cs ((q : Int) + 1) = R at *
  obtain ⟨⟨A, M, C⟩, e⟩ := R
  have rSpnF_at : rSpnFS.rel [fm al mp cs, iv ((q : Int) + 1)] [] (.tup [fm A M C, iv e]) [] := M0
  by_cases he : e = 0
  · subst he
    repeat' (first | refine sA ?_ | with_reducible refine W_tf rfl (fun h => ?_) (fun h => ?_) | ((with_reducible first | refine hK _ ?_ | refine hK _ _ ?_); clear hK K) | ((first | refine sB ?_ | (with_reducible first | refine ops_cons (fun K hK => ?_) | refine opsd_cons (fun K hK => ?_) | refine W_reg lv77MdY ?_ | refine W_drw lv77MdY (by kernel_rfl) ?_) | ((with_reducible refine opsd_nil ?_); refine And.intro (by kernel_rfl) ?_) | with_reducible refine callV_snap ?_ | ((with_reducible refine call_go rSpnFS rSpnF_ok ?_); refine ⟨alk, _, _, rSpnF_at , ?_⟩) | with_reducible refine And.intro (fun h => ?_) (fun h => ?_) | with_reducible refine And.intro (by omega) ?_); (try simp only [go_sem, seval, reduceCtorEq, lv77MdY, Tryz.ntmps77, Tryz.results77, Me6S])) | fail)
    all_goals simp
  · rw [decide_eq_false (show ¬ ((A, M, C), e).2 = 0 from he)]
    repeat' (first | refine sA ?_ | with_reducible refine W_tf rfl (fun h => ?_) (fun h => ?_) | ((with_reducible first | refine hK _ ?_ | refine hK _ _ ?_); clear hK K) | ((first | refine sB ?_ | (with_reducible first | refine ops_cons (fun K hK => ?_) | refine opsd_cons (fun K hK => ?_) | refine W_reg lv77MdY ?_ | refine W_drw lv77MdY (by kernel_rfl) ?_) | ((with_reducible refine opsd_nil ?_); refine And.intro (by kernel_rfl) ?_) | with_reducible refine callV_snap ?_ | ((with_reducible refine call_go rSpnFS rSpnF_ok ?_); refine ⟨alk, _, _, rSpnF_at , ?_⟩) | with_reducible refine And.intro (fun h => ?_) (fun h => ?_) | with_reducible refine And.intro (by omega) ?_); (try simp only [go_sem, seval, reduceCtorEq, he, lv77MdY, Tryz.ntmps77, Tryz.results77, Me6S])) | fail)
    all_goals simp
def Me7S : Spec := { al := true, rel := fun args ins res outs => MemR 7 args ins res outs }
set_option maxHeartbeats 2000000 in
theorem me7_ok : Ok Tryz.prog 77 Me7S := by
  refine fn_ok Me7S Tryz.func77 rfl rfl ?_
  rintro args ins res outs ⟨s, x, hv, h0, hk, rfl, rfl, rfl, rfl⟩
  refine ⟨by simp [Tryz.ntmps77], fun w0 V Bo mu0 => ?_⟩
  obtain ⟨al, mp, cs, W, L, q, o, g, w, t, v, rfl, rfl, hq, hW, l2, l3, l1, hu, hf, hz⟩ := ru_pre hv h0 hk
  have hn : opO ⟨((7 : Nat) : Int), (q : Int) + 1, o, g, w, t, v⟩ (al, mp, cs) = extF al mp cs ((q : Int) + 1) := by simp [opO, ix_succ, oEx]
  dsimp only
  rw [hn]
  have M0 := rExtF_at al mp cs ((q : Int) + 1) hu (by omega) (by omega) (by omega)
  generalize extF al mp cs ((q : Int) + 1) = R at *
  obtain ⟨⟨A, M, C⟩, e⟩ := R
  have rExtF_at : rExtFS.rel [fm al mp cs, iv ((q : Int) + 1)] [] (.tup [fm A M C, iv e]) [] := M0
  by_cases he : e = 0
  · subst he
    repeat' (first | refine sA ?_ | with_reducible refine W_tf rfl (fun h => ?_) (fun h => ?_) | ((with_reducible first | refine hK _ ?_ | refine hK _ _ ?_); clear hK K) | ((first | refine sB ?_ | (with_reducible first | refine ops_cons (fun K hK => ?_) | refine opsd_cons (fun K hK => ?_) | refine W_reg lv77MdY ?_ | refine W_drw lv77MdY (by kernel_rfl) ?_) | ((with_reducible refine opsd_nil ?_); refine And.intro (by kernel_rfl) ?_) | with_reducible refine callV_snap ?_ | ((with_reducible refine call_go rExtFS rExtF_ok ?_); refine ⟨alk, _, _, rExtF_at , ?_⟩) | with_reducible refine And.intro (fun h => ?_) (fun h => ?_) | with_reducible refine And.intro (by omega) ?_); (try simp only [go_sem, seval, reduceCtorEq, lv77MdY, Tryz.ntmps77, Tryz.results77, Me7S])) | fail)
    all_goals simp
  · rw [decide_eq_false (show ¬ ((A, M, C), e).2 = 0 from he)]
    repeat' (first | refine sA ?_ | with_reducible refine W_tf rfl (fun h => ?_) (fun h => ?_) | ((with_reducible first | refine hK _ ?_ | refine hK _ _ ?_); clear hK K) | ((first | refine sB ?_ | (with_reducible first | refine ops_cons (fun K hK => ?_) | refine opsd_cons (fun K hK => ?_) | refine W_reg lv77MdY ?_ | refine W_drw lv77MdY (by kernel_rfl) ?_) | ((with_reducible refine opsd_nil ?_); refine And.intro (by kernel_rfl) ?_) | with_reducible refine callV_snap ?_ | ((with_reducible refine call_go rExtFS rExtF_ok ?_); refine ⟨alk, _, _, rExtF_at , ?_⟩) | with_reducible refine And.intro (fun h => ?_) (fun h => ?_) | with_reducible refine And.intro (by omega) ?_); (try simp only [go_sem, seval, reduceCtorEq, he, lv77MdY, Tryz.ntmps77, Tryz.results77, Me7S])) | fail)
    all_goals simp
def Me8S : Spec := { al := true, rel := fun args ins res outs => MemR 8 args ins res outs }
set_option maxHeartbeats 2000000 in
theorem me8_ok : Ok Tryz.prog 77 Me8S := by
  refine fn_ok Me8S Tryz.func77 rfl rfl ?_
  rintro args ins res outs ⟨s, x, hv, h0, hk, rfl, rfl, rfl, rfl⟩
  refine ⟨by simp [Tryz.ntmps77], fun w0 V Bo mu0 => ?_⟩
  obtain ⟨al, mp, cs, W, L, q, o, g, w, t, v, rfl, rfl, hq, hW, l2, l3, l1, hu, hf, hz⟩ := ru_pre hv h0 hk
  have hn : opO ⟨((8 : Nat) : Int), (q : Int) + 1, o, g, w, t, v⟩ (al, mp, cs) = ((al, mp, cs), if mapE al mp cs ((q : Int) + 1) g w = 12 then 0 else 2) := by simp [opO, ix_succ]
  dsimp only
  rw [hn]
  have R0 := rRd_at al mp cs ((q : Int) + 1) g w hu (by omega) (by omega) (by omega)
  generalize mapE al mp cs ((q : Int) + 1) g w = E at *
  generalize rdV cs ((q : Int) + 1) g w.toNat = r at *
  generalize (if E = 0 then r else 0) = r' at *
  have rRd_at : rRdS.rel [fm al mp cs, iv ((q : Int) + 1), iv g, iv w] [] (.tup [wv (r' : Int), iv E]) [] := R0
  by_cases hE : E = 12
  · rw [if_pos hE]
    repeat' (first | refine sA ?_ | with_reducible refine W_tf rfl (fun h => ?_) (fun h => ?_) | ((with_reducible first | refine hK _ ?_ | refine hK _ _ ?_); clear hK K) | ((first | refine sB ?_ | (with_reducible first | refine ops_cons (fun K hK => ?_) | refine opsd_cons (fun K hK => ?_) | refine W_reg lv77MdY ?_ | refine W_drw lv77MdY (by kernel_rfl) ?_) | ((with_reducible refine opsd_nil ?_); refine And.intro (by kernel_rfl) ?_) | with_reducible refine callV_snap ?_ | ((with_reducible refine call_go rRdS rRd_ok ?_); refine ⟨alk, _, _, rRd_at , ?_⟩) | with_reducible refine And.intro (fun h => ?_) (fun h => ?_) | with_reducible refine And.intro (by omega) ?_); (try simp only [go_sem, seval, reduceCtorEq, hE, lv77MdY, Tryz.ntmps77, Tryz.results77, Me8S])) | fail)
    all_goals simp
  · rw [if_neg hE]
    repeat' (first | refine sA ?_ | with_reducible refine W_tf rfl (fun h => ?_) (fun h => ?_) | ((with_reducible first | refine hK _ ?_ | refine hK _ _ ?_); clear hK K) | ((first | refine sB ?_ | (with_reducible first | refine ops_cons (fun K hK => ?_) | refine opsd_cons (fun K hK => ?_) | refine W_reg lv77MdY ?_ | refine W_drw lv77MdY (by kernel_rfl) ?_) | ((with_reducible refine opsd_nil ?_); refine And.intro (by kernel_rfl) ?_) | with_reducible refine callV_snap ?_ | ((with_reducible refine call_go rRdS rRd_ok ?_); refine ⟨alk, _, _, rRd_at , ?_⟩) | with_reducible refine And.intro (fun h => ?_) (fun h => ?_) | with_reducible refine And.intro (by omega) ?_); (try simp only [go_sem, seval, reduceCtorEq, hE, lv77MdY, Tryz.ntmps77, Tryz.results77, Me8S])) | fail)
    all_goals simp
def Me10S : Spec := { al := true, rel := fun args ins res outs => MemR 10 args ins res outs }
set_option maxHeartbeats 2000000 in
theorem me10_ok : Ok Tryz.prog 77 Me10S := by
  refine fn_ok Me10S Tryz.func77 rfl rfl ?_
  rintro args ins res outs ⟨s, x, hv, h0, hk, rfl, rfl, rfl, rfl⟩
  refine ⟨by simp [Tryz.ntmps77], fun w0 V Bo mu0 => ?_⟩
  obtain ⟨al, mp, cs, W, L, q, o, g, w, t, v, rfl, rfl, hq, hW, l2, l3, l1, hu, hf, hz⟩ := ru_pre hv h0 hk
  have hn : opO ⟨((10 : Nat) : Int), (q : Int) + 1, o, g, w, t, v⟩ (al, mp, cs) = extF al mp cs ((q : Int) + 1) := by simp [opO, ix_succ, oEx]
  dsimp only
  rw [hn]
  have M0 := rExtF_at al mp cs ((q : Int) + 1) hu (by omega) (by omega) (by omega)
  generalize extF al mp cs ((q : Int) + 1) = R at *
  obtain ⟨⟨A, M, C⟩, e⟩ := R
  have rExtF_at : rExtFS.rel [fm al mp cs, iv ((q : Int) + 1)] [] (.tup [fm A M C, iv e]) [] := M0
  by_cases he : e = 0
  · subst he
    repeat' (first | refine sA ?_ | with_reducible refine W_tf rfl (fun h => ?_) (fun h => ?_) | ((with_reducible first | refine hK _ ?_ | refine hK _ _ ?_); clear hK K) | ((first | refine sB ?_ | (with_reducible first | refine ops_cons (fun K hK => ?_) | refine opsd_cons (fun K hK => ?_) | refine W_reg lv77MdY ?_ | refine W_drw lv77MdY (by kernel_rfl) ?_) | ((with_reducible refine opsd_nil ?_); refine And.intro (by kernel_rfl) ?_) | with_reducible refine callV_snap ?_ | ((with_reducible refine call_go rExtFS rExtF_ok ?_); refine ⟨alk, _, _, rExtF_at , ?_⟩) | with_reducible refine And.intro (fun h => ?_) (fun h => ?_) | with_reducible refine And.intro (by omega) ?_); (try simp only [go_sem, seval, reduceCtorEq, lv77MdY, Tryz.ntmps77, Tryz.results77, Me10S])) | fail)
    all_goals simp
  · rw [decide_eq_false (show ¬ ((A, M, C), e).2 = 0 from he)]
    repeat' (first | refine sA ?_ | with_reducible refine W_tf rfl (fun h => ?_) (fun h => ?_) | ((with_reducible first | refine hK _ ?_ | refine hK _ _ ?_); clear hK K) | ((first | refine sB ?_ | (with_reducible first | refine ops_cons (fun K hK => ?_) | refine opsd_cons (fun K hK => ?_) | refine W_reg lv77MdY ?_ | refine W_drw lv77MdY (by kernel_rfl) ?_) | ((with_reducible refine opsd_nil ?_); refine And.intro (by kernel_rfl) ?_) | with_reducible refine callV_snap ?_ | ((with_reducible refine call_go rExtFS rExtF_ok ?_); refine ⟨alk, _, _, rExtF_at , ?_⟩) | with_reducible refine And.intro (fun h => ?_) (fun h => ?_) | with_reducible refine And.intro (by omega) ?_); (try simp only [go_sem, seval, reduceCtorEq, he, lv77MdY, Tryz.ntmps77, Tryz.results77, Me10S])) | fail)
    all_goals simp
def Me11S : Spec := { al := true, rel := fun args ins res outs => MemR 11 args ins res outs }
set_option maxHeartbeats 2000000 in
theorem me11_ok : Ok Tryz.prog 77 Me11S := by
  refine fn_ok Me11S Tryz.func77 rfl rfl ?_
  rintro args ins res outs ⟨s, x, hv, h0, hk, rfl, rfl, rfl, rfl⟩
  refine ⟨by simp [Tryz.ntmps77], fun w0 V Bo mu0 => ?_⟩
  obtain ⟨al, mp, cs, W, L, q, o, g, w, t, v, rfl, rfl, hq, hW, l2, l3, l1, hu, hf, hz⟩ := ru_pre hv h0 hk
  have hn : opO ⟨((11 : Nat) : Int), (q : Int) + 1, o, g, w, t, v⟩ (al, mp, cs) = ((al, mp, cs), if al[q]?.getD false = true then 0 else 11) := by simp [opO, ix_succ]
  dsimp only
  rw [hn]
  have hql : q < al.length := by omega
  have hqi : (q : Int) < al.length := by omega
  have hp1 : (q : Int) + 1 - 1 = (q : Int) := by omega
  have e2 : al[q]?.getD false = al[q] := by simp [hql]
  rw [e2]
  cases hb : al[q] with
  | true =>
    have e0 : encDB al[q] = [.bool true] := by rw [hb]; rfl
    repeat' (first | refine sA ?_ | with_reducible refine W_tf rfl (fun h => ?_) (fun h => ?_) | ((with_reducible first | refine hK _ ?_ | refine hK _ _ ?_); clear hK K) | ((first | refine sB ?_ | (with_reducible first | refine ops_cons (fun K hK => ?_) | refine opsd_cons (fun K hK => ?_) | refine W_reg lv77MdY ?_ | refine W_drw lv77MdY (by kernel_rfl) ?_) | ((with_reducible refine opsd_nil ?_); refine And.intro (by kernel_rfl) ?_) | with_reducible refine callV_snap ?_ | with_reducible refine And.intro (fun h => ?_) (fun h => ?_) | with_reducible refine And.intro (by omega) ?_); (try simp only [go_sem, seval, reduceCtorEq, hp1, hqi, e0, lv77MdY, Tryz.ntmps77, Tryz.results77, Me11S])) | fail)
    all_goals simp
  | false =>
    have e0 : encDB al[q] = [.bool false] := by rw [hb]; rfl
    repeat' (first | refine sA ?_ | with_reducible refine W_tf rfl (fun h => ?_) (fun h => ?_) | ((with_reducible first | refine hK _ ?_ | refine hK _ _ ?_); clear hK K) | ((first | refine sB ?_ | (with_reducible first | refine ops_cons (fun K hK => ?_) | refine opsd_cons (fun K hK => ?_) | refine W_reg lv77MdY ?_ | refine W_drw lv77MdY (by kernel_rfl) ?_) | ((with_reducible refine opsd_nil ?_); refine And.intro (by kernel_rfl) ?_) | with_reducible refine callV_snap ?_ | with_reducible refine And.intro (fun h => ?_) (fun h => ?_) | with_reducible refine And.intro (by omega) ?_); (try simp only [go_sem, seval, reduceCtorEq, hp1, hqi, e0, lv77MdY, Tryz.ntmps77, Tryz.results77, Me11S])) | fail)
    all_goals simp
def memS {n : Nat} : Spec := { al := true, rel := fun args ins res outs => MemR n args ins res outs }
theorem mem_all {n : Nat} (h1 : 1 ≤ n) (h2 : n ≤ 11) (h9 : n ≠ 9) : Ok Tryz.prog 77 (memS (n := n)) := by
  rcases (show n = 1 ∨ n = 2 ∨ n = 3 ∨ n = 4 ∨ n = 5 ∨ n = 6 ∨ n = 7 ∨ n = 8 ∨ n = 10 ∨ n = 11 by omega) with rfl | rfl | rfl | rfl | rfl | rfl | rfl | rfl | rfl | rfl
  · exact me1_ok
  · exact me2_ok
  · exact me3_ok
  · exact me4_ok
  · exact me5_ok
  · exact me6_ok
  · exact me7_ok
  · exact me8_ok
  · exact me10_ok
  · exact me11_ok
end Go.Proofs.YtpocnjliigjidaaGreat
