/- BuddyKnown, by the engine. -/
import Derived.Test.YtniiaaagammebaaBdAC
namespace Go.Proofs.Ytniiaaagammebaa
open Go.RowKit
set_option maxRecDepth 100000
set_option linter.unusedSimpArgs false
set_option linter.unusedVariables false

abbrev lv34BdAD : List (Nat × List Nat) := [(0, [0, 1]), (1, [0, 1, 5, 6]), (2, [1, 6, 7, 8]), (3, [4])]
abbrev lv5BdAD : List (Nat × List Nat) := [(0, []), (1, [1, 2]), (2, [1, 2, 4]), (3, [1, 2, 4, 5, 6]), (4, [1, 2, 4, 6, 7, 8]), (5, [1, 2, 4, 6, 7, 8, 9, 10]), (6, [1, 2, 4, 6, 7, 8, 10, 11, 12]), (7, [1, 2, 4, 13]), (8, [1, 2, 4, 13, 14, 15]), (9, [1, 2, 4, 13, 14, 15, 16, 17]), (10, [1, 2, 4, 13, 14, 15, 16, 17, 18, 19]), (11, [1, 2, 4, 13, 14, 15, 16, 17, 18, 19, 20, 21]), (12, [1, 2, 4, 13, 14, 22]), (13, [1, 2, 4, 13, 14, 22, 24]), (14, [1, 2, 4, 13, 14, 22, 24, 26]), (15, [1, 2, 4, 13, 14, 22, 24, 26, 28]), (16, [1, 2, 4, 13, 22, 24, 26, 28, 31]), (17, [1, 2, 4, 13, 22, 24, 26, 28, 31, 32, 33]), (18, [1, 2, 4, 13, 22, 34]), (19, [0])]
def mP : List Bl := [(0, 2), (6, 1), (8, 1), (10, 0)]
def mQ : List Bl := [(0, 2), (5, 0), (6, 1), (8, 1), (10, 0)]
theorem vD : Vz 11 mD := vz_chk (by decide +kernel)
abbrev NewXFS : Spec := NewFS
abbrev NewYFS : Spec := NewFS
theorem NewXF_ok : Ok Try.prog 18 NewXFS := NewF_ok
theorem NewYF_ok : Ok Try.prog 18 NewYFS := NewF_ok
theorem NewXF_at : NewXFS.rel [iv 0] [] (.tup [.agg [iv 0, .d (.sl [])], iv 0]) [] := by
  have : (frzS NewS).rel [iv ((0 : Nat) : Int)] [] (.tup [.agg [iv ((0 : Nat) : Int), dN (bld 0 (fun i => decide (i < 0)))], iv 0]) [] := ⟨rfl, rfl, _, _, .inr ⟨0, by decide, rfl, rfl, rfl, rfl⟩, frz_z 0 _ _ [.int .i64 0] rfl⟩
  exact this
theorem NewYF_at : NewYFS.rel [iv 257] [] (.tup [.agg [iv 0, .d (.sl [])], iv 2]) [] := ⟨rfl, rfl, _, _, .inl ⟨257, .inr (by decide), rfl, rfl, rfl, rfl⟩, frz_e [] _ [.int .i64 2] rfl⟩
theorem take_at' {N : Nat} {m m' : List Bl} {w k : Nat} (hv : Vz N m) (hb : OkB N (w, k)) (hn : Allfr m w k) (h : bld N (frA m w k) = m') : TakeFS.rel [.agg [iv N, dN m], iv w, iv k] [] (.tup [.agg [iv N, dN m'], iv 0]) [] := by
  subst h
  exact ⟨rfl, rfl, _, _, .inr (.inr ⟨N, m, w, k, ⟨hv, hb⟩, hn, rfl, rfl, rfl, rfl⟩), frz_z N _ _ [.int .i64 0] rfl⟩
abbrev fmES : Spec := freeLS
theorem fmE_ok : Ok Try.prog 32 fmES := freeL_ok
theorem fmE_at : fmES.rel [ze mE, .d (.sl [[.int .i64 2], [.int .i64 1], [.int .i64 4], [.int .i64 2], [.int .i64 9], [.int .i64 0], [.int .i64 10], [.int .i64 0]])] [] (bv true) [] := freeL_at 11 mE (by decide)
abbrev fmPS : Spec := freeLS
theorem fmP_ok : Ok Try.prog 32 fmPS := freeL_ok
theorem fmP_at : fmPS.rel [ze mP, .d (.sl [[.int .i64 0], [.int .i64 2], [.int .i64 6], [.int .i64 1], [.int .i64 8], [.int .i64 1], [.int .i64 10], [.int .i64 0]])] [] (bv true) [] := freeL_at 11 mP (by decide)
abbrev fmQS : Spec := freeLS
theorem fmQ_ok : Ok Try.prog 32 fmQS := freeL_ok
theorem fmQ_at : fmQS.rel [ze mQ, .d (.sl [[.int .i64 0], [.int .i64 2], [.int .i64 5], [.int .i64 0], [.int .i64 6], [.int .i64 1], [.int .i64 8], [.int .i64 1], [.int .i64 10], [.int .i64 0]])] [] (bv true) [] := freeL_at 11 mQ (by decide)
abbrev fe3S : Spec := FreeFS
theorem fe3_ok : Ok Try.prog 14 fe3S := FreeF_ok
theorem fe3_at : fe3S.rel [ze mD, iv 0, iv 1] [] (.tup [ze m0, iv 0]) [] := by
  have hb : OkB 11 (0, 1) := by unfold OkB; decide
  exact free_at' (N := 11) (w := 0) (k := 1) vD hb ((nofr_iff ⟨vD, hb⟩).2 (by decide)) (by decide +kernel)
abbrev etk1S : Spec := TakeFS
theorem etk1_ok : Ok Try.prog 16 etk1S := TakeF_ok
theorem etk1_at : etk1S.rel [ze m0, iv 4, iv 1] [] (.tup [ze mP, iv 0]) [] := by
  have hb : OkB 11 (4, 1) := by unfold OkB; decide
  exact take_at' (N := 11) (w := 4) (k := 1) v0 hb ((allfr_iff ⟨v0, hb⟩).2 (by decide)) (by decide +kernel)
abbrev etk2S : Spec := TakeFS
theorem etk2_ok : Ok Try.prog 16 etk2S := TakeF_ok
theorem etk2_at : etk2S.rel [ze m0, iv 4, iv 0] [] (.tup [ze mQ, iv 0]) [] := by
  have hb : OkB 11 (4, 0) := by unfold OkB; decide
  exact take_at' (N := 11) (w := 4) (k := 0) v0 hb ((allfr_iff ⟨v0, hb⟩).2 (by decide)) (by decide +kernel)
abbrev ferS : Spec := FreeFS
theorem fer_ok : Ok Try.prog 14 ferS := FreeF_ok
theorem fer_at : ferS.rel [ze m0, iv 4, iv 0] [] (.tup [.agg [iv 0, .d (.sl [])], iv 7]) [] := by
  have hb : OkB 11 (4, 0) := by unfold OkB; decide
  exact ⟨rfl, rfl, _, _, .inr (.inl ⟨11, m0, 4, 0, ⟨v0, hb⟩, fun h => absurd ((nofr_iff ⟨v0, hb⟩).1 h) (by decide), rfl, rfl, rfl, rfl⟩), frz_e [] _ [.int .i64 7] rfl⟩
abbrev falS : Spec := FreeFS
theorem fal_ok : Ok Try.prog 14 falS := FreeF_ok
theorem e_al : askB 11 (m0.map toI) 3 1 = 13 := by decide +kernel
theorem fal_at : falS.rel [ze m0, iv 3, iv 1] [] (.tup [.agg [iv 0, .d (.sl [])], iv 13]) [] := by
  have : (frzS FreeS).rel [zv 11 (m0.map toI), iv 3, iv 1] [] (.tup [.agg [iv 0, dN []], iv (askB 11 (m0.map toI) 3 1)]) [] := ⟨rfl, rfl, _, _, .inl ⟨11, m0.map toI, 3, 1, by decide, by rw [e_al]; decide, rfl, rfl, rfl, rfl⟩, frz_e [] _ [.int .i64 _] rfl⟩
  rw [e_al] at this
  exact this
abbrev trgS : Spec := TakeFS
theorem trg_ok : Ok Try.prog 16 trgS := TakeF_ok
theorem e_rg : askB 11 (m0.map toI) 8 2 = 2 := by decide +kernel
theorem trg_at : trgS.rel [ze m0, iv 8, iv 2] [] (.tup [.agg [iv 0, .d (.sl [])], iv 2]) [] := by
  have : (frzS TakeS).rel [zv 11 (m0.map toI), iv 8, iv 2] [] (.tup [.agg [iv 0, dN []], iv (askB 11 (m0.map toI) 8 2)]) [] := ⟨rfl, rfl, _, _, .inl ⟨11, m0.map toI, 8, 2, by decide, by rw [e_rg]; decide, rfl, rfl, rfl, rfl⟩, frz_e [] _ [.int .i64 _] rfl⟩
  rw [e_rg] at this
  exact this
abbrev alfS : Spec := AllocFS
theorem alf_ok : Ok Try.prog 11 alfS := AllocF_ok
theorem alf_at : alfS.rel [ze m0, iv 4] [] (.tup [.agg [iv 0, .d (.sl [])], iv 0, iv 5]) [] := ⟨rfl, rfl, _, _, .inr (.inl ⟨11, m0, 4, v0, by decide, by decide, rfl, rfl, rfl, rfl⟩), frz_e [] _ [.int .i64 0, .int .i64 5] rfl⟩
abbrev cnyS : Spec := CountsFS
theorem cny_ok : Ok Try.prog 24 cnyS := CountsF_ok
theorem e_cn : il (cnt m0) = [1, 1, 0, 1, 0, 0, 0] := by decide +kernel
theorem cny_at : cnyS.rel [ze m0] [] (.tup [.d (.sl [[.int .i64 1], [.int .i64 1], [.int .i64 0], [.int .i64 1], [.int .i64 0], [.int .i64 0], [.int .i64 0]]), iv 0]) [] := by
  have : (frzS CountsS).rel [ze m0] [] (.tup [dI (il (cnt m0)), iv 0]) [] := ⟨rfl, rfl, _, _, .inr ⟨11, m0, v0, rfl, rfl, rfl, rfl⟩, by
    have : List.take 7 ((il (cnt m0)).map encDI) = (il (cnt m0)).map encDI := List.take_of_length_le (by simp [il_len])
    simp [frz, frzA, frzAL, frz1, il_len, this]⟩
  rw [e_cn] at this
  exact this
abbrev si7S : Spec := SameIS
theorem si7_ok : Ok Try.prog 26 si7S := SameI_ok
theorem si7_at : si7S.rel [.d (.sl [[.int .i64 1], [.int .i64 1], [.int .i64 0], [.int .i64 1], [.int .i64 0], [.int .i64 0], [.int .i64 0]]), .d (.sl [[.int .i64 1], [.int .i64 1], [.int .i64 0], [.int .i64 1], [.int .i64 0], [.int .i64 0], [.int .i64 0]])] [] (bv true) [] := SameI_at [1, 1, 0, 1, 0, 0, 0] (by decide)
abbrev ckxS : Spec := CheckS
theorem ckx_ok : Ok Try.prog 20 ckxS := Check_ok
theorem e_ck : zchk 11 [(0, 1), (2, 1)] = (7, 1) := by decide +kernel
theorem ckx_at : ckxS.rel [.agg [iv 11, .d (.sl [[.int .i64 0, .int .i64 1], [.int .i64 2, .int .i64 1]])]] [] (.tup [iv 7, iv 1]) [] := by
  have := Check_at 11 [(0, 1), (2, 1)] (by decide)
  rw [e_ck] at this
  exact this
def mstLS : Spec := { rel := fun args ins res outs => ∃ (k w : Nat), k ≤ 6 ∧ mst m0 k = w ∧ args = [iv k, iv w] ∧ ins = [] ∧ res = bv true ∧ outs = [] }
theorem mstL_at (k w : Nat) (h : k ≤ 6) (hw : mst m0 k = w) : mstLS.rel [iv k, iv w] [] (bv true) [] := ⟨k, w, h, hw, rfl, rfl, rfl, rfl⟩
theorem mstL_ok : Ok Try.prog 34 mstLS := by
  refine fn_ok mstLS Try.func34 rfl rfl ?_
  rintro args ins res outs ⟨k, w, hk, rfl, rfl, rfl, rfl, rfl⟩
  refine ⟨by simp [Try.ntmps34], fun w0 V Bo mu0 => ?_⟩
  have Mst_at : MstS.rel [ze m0, iv k] [] (.tup [iv (mst m0 k), iv 0]) [] := Most_at 11 m0 k v0 hk
  repeat' (first
    | (with_reducible first | refine W_seq ?_ | refine W_condT rfl ?_ | refine W_condF rfl ?_ | refine W_tf rfl (fun h => ?_) (fun h => ?_) | refine W_block ?_ | refine W_scope ?_ | refine endQ_ret ?_ | refine endQ_normal ?_)
    | ((with_reducible first | refine hK _ ?_ | refine hK _ _ ?_); clear hK K)
    | ((first | (with_reducible first | refine ops_cons (fun K hK => ?_) | refine opsd_cons (fun K hK => ?_) | refine ops_nil ?_ | refine fit_i64 (by omega) ?_ | refine fit_u8 (by omega) ?_ | refine fit_u64 (by omega) ?_ | refine fit_u32 (by omega) ?_ | refine fit_any ?_ | refine quo_nn (by omega) ?_ | refine rem_nn (by omega) ?_ | refine quo_any ?_ | refine rem_any ?_ | refine sh_in (by simp only [IntKind.bits]; omega) ?_) | ((with_reducible refine opsd_nil ?_); refine And.intro (by kernel_rfl) ?_) | with_reducible refine callV_snap ?_ | ((with_reducible refine call_go elevS elev_ok ?_); refine ⟨(by first | exact alOk_nil _ | exact alOk_f rfl), _, _, elev_at , ?_⟩) | ((with_reducible refine call_go MstS Mst_ok ?_); refine ⟨(by first | exact alOk_nil _ | exact alOk_f rfl), _, _, Mst_at , ?_⟩) | (with_reducible first | refine slice_old ?_ | refine app_grow ?_ | refine idx_map (by omega) ?_ | refine W_reg lv34BdAD ?_ | refine W_drw lv34BdAD (by kernel_rfl) ?_ | refine W_label ?_ | refine W_skip ?_ | refine W_exit ?_ | refine W_ret ?_ | refine end_at0 ?_) | (with_reducible refine And.intro (fun h => ?_) (fun h => ?_)) | (with_reducible refine And.intro (by omega) ?_)); (try simp only [go_sem, seval, reduceCtorEq, lv34BdAD, Try.ntmps34, Try.results34, mstLS]))
    | fail)
abbrev ms1S : Spec := mstLS
theorem ms1_ok : Ok Try.prog 34 ms1S := mstL_ok
theorem ms1_at : ms1S.rel [iv 1, iv 5] [] (bv true) [] := mstL_at 1 5 (by decide) (by decide +kernel)
abbrev ms2S : Spec := mstLS
theorem ms2_ok : Ok Try.prog 34 ms2S := mstL_ok
theorem ms2_at : ms2S.rel [iv 2, iv 2] [] (bv true) [] := mstL_at 2 2 (by decide) (by decide +kernel)
abbrev ms3S : Spec := mstLS
theorem ms3_ok : Ok Try.prog 34 ms3S := mstL_ok
theorem ms3_at : ms3S.rel [iv 3, iv 1] [] (bv true) [] := mstL_at 3 1 (by decide) (by decide +kernel)
abbrev ms4S : Spec := mstLS
theorem ms4_ok : Ok Try.prog 34 ms4S := mstL_ok
theorem ms4_at : ms4S.rel [iv 4, iv 0] [] (bv true) [] := mstL_at 4 0 (by decide) (by decide +kernel)
def knwS : Spec := { rel := fun args ins res outs => args = [] ∧ ins = [] ∧ res = bv true ∧ outs = [] }
theorem knw_at : knwS.rel [] [] (bv true) [] := ⟨rfl, rfl, rfl, rfl⟩
set_option maxHeartbeats 8000000 in
theorem knw_ok : Ok Try.prog 5 knwS := by
  refine fn_ok knwS Try.func5 rfl rfl ?_
  rintro args ins res outs ⟨rfl, rfl, rfl, rfl⟩
  refine ⟨by simp [Try.ntmps5], fun w0 V Bo mu0 => ?_⟩
  have hz0 : ((0 : Nat) : Int) = 0 := rfl
  repeat' (first
    | (with_reducible first | refine W_seq ?_ | refine W_condT rfl ?_ | refine W_condF rfl ?_ | refine W_tf rfl (fun h => ?_) (fun h => ?_) | refine W_block ?_ | refine W_scope ?_ | refine endQ_ret ?_ | refine endQ_normal ?_)
    | ((with_reducible first | refine hK _ ?_ | refine hK _ _ ?_); clear hK K)
    | ((with_reducible refine And.intro (encBke.rows _) ?_))
    | ((first | (with_reducible first | refine ops_cons (fun K hK => ?_) | refine opsd_cons (fun K hK => ?_) | refine ops_nil ?_ | refine fit_i64 (by omega) ?_ | refine fit_u8 (by omega) ?_ | refine fit_u64 (by omega) ?_ | refine fit_u32 (by omega) ?_ | refine fit_any ?_ | refine quo_nn (by omega) ?_ | refine rem_nn (by omega) ?_ | refine quo_any ?_ | refine rem_any ?_ | refine sh_in (by simp only [IntKind.bits]; omega) ?_) | ((with_reducible refine opsd_nil ?_); refine And.intro (by kernel_rfl) ?_) | with_reducible refine callV_snap ?_ | ((with_reducible refine call_go NewXFS NewXF_ok ?_); refine ⟨(by first | exact alOk_nil _ | exact alOk_f rfl), _, _, NewXF_at , ?_⟩) | ((with_reducible refine call_go NewYFS NewYF_ok ?_); refine ⟨(by first | exact alOk_nil _ | exact alOk_f rfl), _, _, NewYF_at , ?_⟩) | ((with_reducible refine call_go threeS three_ok ?_); refine ⟨(by first | exact alOk_nil _ | exact alOk_f rfl), _, _, three_at , ?_⟩) | ((with_reducible refine call_go fe1S fe1_ok ?_); refine ⟨(by first | exact alOk_nil _ | exact alOk_f rfl), _, _, fe1_at , ?_⟩) | ((with_reducible refine call_go fe2S fe2_ok ?_); refine ⟨(by first | exact alOk_nil _ | exact alOk_f rfl), _, _, fe2_at , ?_⟩) | ((with_reducible refine call_go fe3S fe3_ok ?_); refine ⟨(by first | exact alOk_nil _ | exact alOk_f rfl), _, _, fe3_at , ?_⟩) | ((with_reducible refine call_go fmES fmE_ok ?_); refine ⟨(by first | exact alOk_nil _ | exact alOk_f rfl), _, _, fmE_at , ?_⟩) | ((with_reducible refine call_go fm0S fm0_ok ?_); refine ⟨(by first | exact alOk_nil _ | exact alOk_f rfl), _, _, fm0_at , ?_⟩) | ((with_reducible refine call_go elevS elev_ok ?_); refine ⟨(by first | exact alOk_nil _ | exact alOk_f rfl), _, _, elev_at , ?_⟩) | ((with_reducible refine call_go cnyS cny_ok ?_); refine ⟨(by first | exact alOk_nil _ | exact alOk_f rfl), _, _, cny_at , ?_⟩) | ((with_reducible refine call_go etk1S etk1_ok ?_); refine ⟨(by first | exact alOk_nil _ | exact alOk_f rfl), _, _, etk1_at , ?_⟩) | ((with_reducible refine call_go etk2S etk2_ok ?_); refine ⟨(by first | exact alOk_nil _ | exact alOk_f rfl), _, _, etk2_at , ?_⟩) | ((with_reducible refine call_go fmPS fmP_ok ?_); refine ⟨(by first | exact alOk_nil _ | exact alOk_f rfl), _, _, fmP_at , ?_⟩) | ((with_reducible refine call_go fmQS fmQ_ok ?_); refine ⟨(by first | exact alOk_nil _ | exact alOk_f rfl), _, _, fmQ_at , ?_⟩) | ((with_reducible refine call_go si7S si7_ok ?_); refine ⟨(by first | exact alOk_nil _ | exact alOk_f rfl), _, _, si7_at , ?_⟩) | ((with_reducible refine call_go ferS fer_ok ?_); refine ⟨(by first | exact alOk_nil _ | exact alOk_f rfl), _, _, fer_at , ?_⟩) | ((with_reducible refine call_go falS fal_ok ?_); refine ⟨(by first | exact alOk_nil _ | exact alOk_f rfl), _, _, fal_at , ?_⟩) | ((with_reducible refine call_go trgS trg_ok ?_); refine ⟨(by first | exact alOk_nil _ | exact alOk_f rfl), _, _, trg_at , ?_⟩) | ((with_reducible refine call_go alfS alf_ok ?_); refine ⟨(by first | exact alOk_nil _ | exact alOk_f rfl), _, _, alf_at , ?_⟩) | ((with_reducible refine call_go ckxS ckx_ok ?_); refine ⟨(by first | exact alOk_nil _ | exact alOk_f rfl), _, _, ckx_at , ?_⟩) | ((with_reducible refine call_go awakeS awake_ok ?_); refine ⟨(by first | exact alOk_nil _ | exact alOk_f rfl), _, _, awake_at , ?_⟩) | ((with_reducible refine call_go ms1S ms1_ok ?_); refine ⟨(by first | exact alOk_nil _ | exact alOk_f rfl), _, _, ms1_at , ?_⟩) | ((with_reducible refine call_go ms2S ms2_ok ?_); refine ⟨(by first | exact alOk_nil _ | exact alOk_f rfl), _, _, ms2_at , ?_⟩) | ((with_reducible refine call_go ms3S ms3_ok ?_); refine ⟨(by first | exact alOk_nil _ | exact alOk_f rfl), _, _, ms3_at , ?_⟩) | ((with_reducible refine call_go ms4S ms4_ok ?_); refine ⟨(by first | exact alOk_nil _ | exact alOk_f rfl), _, _, ms4_at , ?_⟩) | (with_reducible first | refine slice_old ?_ | refine app_grow ?_ | refine idx_map (by omega) ?_ | refine W_reg lv5BdAD ?_ | refine W_drw lv5BdAD (by kernel_rfl) ?_ | refine W_label ?_ | refine W_skip ?_ | refine W_exit ?_ | refine W_ret ?_ | refine end_at0 ?_) | (with_reducible refine And.intro (fun h => ?_) (fun h => ?_)) | (with_reducible refine And.intro (by omega) ?_)); (try simp only [go_sem, seval, reduceCtorEq, hz0, lv5BdAD, Try.ntmps5, Try.results5, knwS]))
    | fail)
end Go.Proofs.Ytniiaaagammebaa
