/- ShrinkUndo, by the engine. -/
import Derived.Test.YtpkiabhlmjnemaaShrR
namespace Go.Proofs.Ytpkiabhlmjnemaa
open Go.RowKit
set_option maxRecDepth 100000
set_option linter.unusedSimpArgs false
set_option linter.unusedVariables false

theorem vl_snoc {l : List O} (hv : Vl l) (h : l.length < 256) {o : O} (ho : oneE o = 0) (ha : ∀ x ∈ l, x.2.1 < o.2.1) (ht : ∀ x ∈ l, x.2.2 ≠ o.2.2) : Vl (l ++ [o]) := by
  refine ⟨by simp; omega, fun x hx => ?_, ?_, ?_⟩
  · rcases List.mem_append.1 hx with h | h
    · exact hv.one x h
    · simp at h; subst h; exact ho
  · rw [List.pairwise_append]
    exact ⟨hv.age, by simp, fun a hx b hb => by simp at hb; subst hb; exact ha a hx⟩
  · rw [List.pairwise_append]
    exact ⟨hv.at_, by simp, fun a hx b hb => by simp at hb; subst hb; exact ht a hx⟩
theorem vl_sub {l m : List O} (hv : Vl l) (h : m.Sublist l) : Vl m :=
  ⟨Nat.le_trans h.length_le hv.len, fun o ho => hv.one o (h.subset ho), hv.age.sublist h, hv.at_.sublist h⟩
theorem ageI_snoc {l : List O} {o : O} (ha : ∀ x ∈ l, x.2.1 ≠ o.2.1) : ageI (l ++ [o]) o.2.1 = some l.length := by
  unfold ageI
  rw [List.findIdx?_eq_some_iff_getElem]
  refine ⟨by simp, by simp, fun j hj => ?_⟩
  rw [List.getElem_append_left hj]
  simpa using ha _ (List.getElem_mem hj)
theorem ageI_get {l : List O} (hv : Vl l) {k : Nat} (hk : k < l.length) : ageI l (l[k]).2.1 = some k := by
  unfold ageI
  rw [List.findIdx?_eq_some_iff_getElem]
  refine ⟨hk, by simp, fun j hj => ?_⟩
  have := List.pairwise_iff_getElem.1 hv.age j k (by omega) hk hj
  simp; omega
theorem add_ok {l : List O} (hv : Vl l) (h : l.length < 256) {o : O} (ho : oneE o = 0) (ha : ∀ x ∈ l, x.2.1 < o.2.1) (ht : ∀ x ∈ l, x.2.2 ≠ o.2.2) : addE l o = 0 ∧ addL l o = l ++ [o] := by
  have e : addE l o = 0 := by
    unfold addE
    have hp : plcd l o.2.2 = false := by
      unfold plcd
      rw [List.any_eq_false]
      intro x hx
      simpa using ht x hx
    have hla : late l o = false := by
      unfold late
      cases hg : l.getLast? with
      | none => rfl
      | some x =>
        have := ha x (List.mem_of_getLast? hg)
        simp; omega
    rw [val_chk hv, hp, hla, ho]
    simp; omega
  exact ⟨e, by unfold addL; rw [if_pos e]⟩
theorem drp_ok {l : List O} (hv : Vl l) {a : Int} {i : Nat} (hi : ageI l a = some i) (hlt : i < l.length) : drpE l a = 0 ∧ drpL l a = l.eraseIdx i ∧ drpO l a = l[i] := by
  have hc : (chk l).1 = 0 := by rw [val_chk hv]
  refine ⟨by simp [drpE, hc, hi], by simp [drpL, hc, hi], by simp [drpO, hc, hi, hlt]⟩

def undS : Spec := { rel := fun args ins res outs => ∃ (nums : List Int) (kind which : Int), args = [dI nums, iv kind, iv which] ∧ ins = [] ∧ res = bv true ∧ outs = [] }
set_option maxHeartbeats 4000000 in
theorem und_ok : Ok Try.prog 8 undS := by
  refine fn_ok undS Try.func8 rfl rfl ?_
  rintro args ins res outs ⟨nums, kind, which, rfl, rfl, rfl, rfl⟩
  refine ⟨by simp [Try.ntmps8], fun w0 V Bo mu0 => ?_⟩
  have hv := md_val nums
  have hlen := md_len nums
  have hage := md_age nums
  generalize hmd : md nums = l at *
  have hl6 : l.length ≤ 1000000 := by omega
  have k0 : 0 ≤ kind % 3 ∧ kind % 3 < 3 := by omega
  have ho : oneE (1 + kind % 3, 1000, 2000) = 0 := oneE_ok (by simp only; omega) (by simp only; omega)
  have ha : ∀ x ∈ l, x.2.1 < (1000 : Int) := fun x hx => by have := hage x hx; omega
  have ht : ∀ x ∈ l, x.2.2 ≠ (2000 : Int) := fun x hx => by have := hage x hx; omega
  obtain ⟨e1, e2⟩ := add_ok hv (by omega) ho ha ht
  have hv2 : Vl (l ++ [(1 + kind % 3, 1000, 2000)]) := vl_snoc hv (by omega) ho ha ht
  have e3 := val_chk hv2
  obtain ⟨e4, e5, e6⟩ := drp_ok hv2 (ageI_snoc (o := (1 + kind % 3, 1000, 2000)) (fun x hx => by have := ha x hx; dsimp only; omega)) (by simp)
  have e7 : (l ++ [((1 + kind % 3 : Int), (1000 : Int), (2000 : Int))]).eraseIdx l.length = l := by
    rw [List.eraseIdx_append_of_length_le (Nat.le_refl _)]; simp
  rw [e7] at e5
  have e8 : (l ++ [((1 + kind % 3 : Int), (1000 : Int), (2000 : Int))])[l.length]'(by simp) = (1 + kind % 3, 1000, 2000) := by simp
  rw [e8] at e6
  dsimp only at e4 e5 e6
  have hl7 : (l ++ [((1 + kind % 3 : Int), (1000 : Int), (2000 : Int))]).length ≤ 1000000 := by simp; omega
  have madeF_at' : madeFS.rel [dI nums] [] (dO l) [] := by rw [← hmd]; exact madeF_at nums
  by_cases h0 : (l.length : Int) = 0
  · skip
    repeat' (first
      | (with_reducible first | refine W_seq ?_ | refine W_condT rfl ?_ | refine W_condF rfl ?_ | refine W_tf rfl (fun h => ?_) (fun h => ?_) | refine W_block ?_ | refine W_scope ?_ | refine endQ_ret ?_ | refine endQ_normal ?_)
      | ((with_reducible first | refine hK _ ?_ | refine hK _ _ ?_); clear hK K)
      | ((with_reducible refine And.intro eqt_obj ?_); (try simp only [go_sem, Nat.reduceAdd, Nat.reduceSub, Nat.reduceMul, Nat.reduceDiv, Nat.reduceMod, Nat.reducePow, Nat.reduceLT, Nat.reduceEqDiff, Nat.reduceBEq, Nat.reduceLeDiff, reduceIte, reduceCtorEq, Int.reduceLT, Int.reduceLE, Int.reduceEq, Int.reduceNe, Int.reduceNeg, Int.reduceAdd, Int.reduceSub, Int.reduceMul, Int.reduceToNat, Int.reducePow, Int.reduceDiv, Int.reduceMod, Nat.reduceSucc]))
      | ((first | (with_reducible first | refine ops_cons (fun K hK => ?_) | refine opsd_cons (fun K hK => ?_) | refine ops_nil ?_ | refine fit_i64 (by omega) ?_ | refine fit_u8 (by omega) ?_ | refine fit_u64 (by omega) ?_ | refine fit_u32 (by omega) ?_ | refine fit_any ?_ | refine quo_nn (by omega) ?_ | refine rem_nn (by omega) ?_ | refine quo_any ?_ | refine rem_any ?_ | refine sh_in (by simp only [IntKind.bits]; omega) ?_) | ((with_reducible refine opsd_nil ?_); refine And.intro (by kernel_rfl) ?_) | with_reducible refine callV_snap ?_ | ((with_reducible refine call_go madeFS madeF_ok ?_); refine ⟨(by first | exact alOk_nil _ | exact alOk_f rfl), _, _, madeF_at nums, ?_⟩) | ((with_reducible refine call_go ModS Mod_ok ?_); refine ⟨(by first | exact alOk_nil _ | exact alOk_f rfl), _, _, Mod_at kind 3 (by omega) (by omega), ?_⟩) | ((with_reducible refine call_go OwnFS OwnF_ok ?_); refine ⟨(by first | exact alOk_nil _ | exact alOk_f rfl), _, _, OwnF_at l hl6, ?_⟩) | ((with_reducible refine call_go AddFS AddF_ok ?_); refine ⟨(by first | exact alOk_nil _ | exact alOk_f rfl), _, _, AddF_at l (1 + kind % 3, 1000, 2000) hl6, ?_⟩) | ((with_reducible refine call_go CheckS Check_ok ?_); refine ⟨(by first | exact alOk_nil _ | exact alOk_f rfl), _, _, Check_at (l ++ [(1 + kind % 3, 1000, 2000)]) hl7, ?_⟩) | ((with_reducible refine call_go DropFS DropF_ok ?_); refine ⟨(by first | exact alOk_nil _ | exact alOk_f rfl), _, _, DropF_at (l ++ [(1 + kind % 3, 1000, 2000)]) 1000 hl7, ?_⟩) | ((with_reducible refine call_go SameOS SameO_ok ?_); refine ⟨(by first | exact alOk_nil _ | exact alOk_f rfl), _, _, SameO_at l hl6, ?_⟩) | ((with_reducible refine call_go awakeS awake_ok ?_); refine ⟨(by first | exact alOk_nil _ | exact alOk_f rfl), _, _, awake_at , ?_⟩) | (with_reducible first | refine slice_old ?_ | refine app_grow ?_ | refine idx_map (by omega) ?_ | refine W_reg [(0, [0, 1, 2]), (1, [1, 2, 7]), (2, [2, 7, 8]), (3, [2, 7, 8, 9, 10]), (4, [2, 7, 8, 9, 10, 11]), (5, [2, 7, 8, 10, 11, 13, 14, 15]), (6, [2, 7, 63]), (7, [6]), (8, [2, 7, 66]), (9, [6]), (10, [7, 16]), (11, [7, 10, 16, 17, 18]), (12, [7, 10, 11, 16, 17, 18]), (13, [6])] ?_ | refine W_drw [(0, [0, 1, 2]), (1, [1, 2, 7]), (2, [2, 7, 8]), (3, [2, 7, 8, 9, 10]), (4, [2, 7, 8, 9, 10, 11]), (5, [2, 7, 8, 10, 11, 13, 14, 15]), (6, [2, 7, 63]), (7, [6]), (8, [2, 7, 66]), (9, [6]), (10, [7, 16]), (11, [7, 10, 16, 17, 18]), (12, [7, 10, 11, 16, 17, 18]), (13, [6])] (by kernel_rfl) ?_ | refine W_label ?_ | refine W_skip ?_ | refine W_exit ?_ | refine W_ret ?_ | refine end_at0 ?_) | (with_reducible refine And.intro (fun h => ?_) (fun h => ?_)) | (with_reducible refine And.intro (by omega) ?_)); (try simp only [go_sem, Nat.reduceAdd, Nat.reduceSub, Nat.reduceMul, Nat.reduceDiv, Nat.reduceMod, Nat.reducePow, Nat.reduceLT, Nat.reduceEqDiff, Nat.reduceBEq, Nat.reduceLeDiff, reduceIte, reduceCtorEq, Int.reduceLT, Int.reduceLE, Int.reduceEq, Int.reduceNe, Int.reduceNeg, Int.reduceAdd, Int.reduceSub, Int.reduceMul, Int.reduceToNat, Int.reducePow, Int.reduceDiv, Int.reduceMod, Nat.reduceSucc, hmd, h0, e1, e2, e3, e4, e5, e6, Try.ntmps8, Try.results8, undS]))
      | fail)
  · have w0 : 0 ≤ which % l.length := Int.emod_nonneg _ h0
    have w1 : which % l.length < l.length := Int.emod_lt_of_pos _ (by omega)
    obtain ⟨k, hk⟩ : ∃ k : Nat, which % (l.length : Int) = k := ⟨(which % l.length).toNat, by omega⟩
    have hkl : k < l.length := by omega
    have hki : (k : Int) < l.length := by omega
    obtain ⟨g1, g2, g3⟩ := drp_ok hv (ageI_get hv hkl) hkl
    have g4 := val_chk (vl_sub hv (List.eraseIdx_sublist l k))
    have hl8 : (l.eraseIdx k).length ≤ 1000000 := by have := List.length_eraseIdx_le l k; omega
    have hmt : List.take k (List.map encDO l) = (l.take k).map encDO := (List.map_take ..).symm
    have hro := encO.rows l
    have hk1 : ((k : Int) + 1).toNat = k + 1 := by omega
    have htk : (l.take k).length = k := by simp; omega
    have hdk : (l.drop (k + 1)).length = l.length - (k + 1) := by simp
    have hd : List.take (l.length - (k + 1)) (List.drop (k + 1) (List.map encDO l)) = (l.drop (k + 1)).map encDO := by rw [← List.map_drop]; exact List.take_of_length_le (by simp)
    have her : List.map encDO (l.eraseIdx k) = (l.take k).map encDO ++ (l.drop (k + 1)).map encDO := by rw [List.eraseIdx_eq_take_drop_succ, List.map_append]
    have hcat := her.symm
    have hsl : (l.take k).length + (l.drop (k + 1)).length = (l.eraseIdx k).length := by rw [htk, hdk]; simp [List.length_eraseIdx, hkl]; omega
    repeat' (first
      | (with_reducible first | refine W_seq ?_ | refine W_condT rfl ?_ | refine W_condF rfl ?_ | refine W_tf rfl (fun h => ?_) (fun h => ?_) | refine W_block ?_ | refine W_scope ?_ | refine endQ_ret ?_ | refine endQ_normal ?_)
      | ((with_reducible first | refine hK _ ?_ | refine hK _ _ ?_); clear hK K)
      | ((with_reducible refine And.intro eqt_obj ?_); (try simp only [go_sem, Nat.reduceAdd, Nat.reduceSub, Nat.reduceMul, Nat.reduceDiv, Nat.reduceMod, Nat.reducePow, Nat.reduceLT, Nat.reduceEqDiff, Nat.reduceBEq, Nat.reduceLeDiff, reduceIte, reduceCtorEq, Int.reduceLT, Int.reduceLE, Int.reduceEq, Int.reduceNe, Int.reduceNeg, Int.reduceAdd, Int.reduceSub, Int.reduceMul, Int.reduceToNat, Int.reducePow, Int.reduceDiv, Int.reduceMod, Nat.reduceSucc]))
      | ((with_reducible refine And.intro hro ?_); (try simp only [go_sem, Nat.reduceAdd, Nat.reduceSub, Nat.reduceMul, Nat.reduceDiv, Nat.reduceMod, Nat.reducePow, Nat.reduceLT, Nat.reduceEqDiff, Nat.reduceBEq, Nat.reduceLeDiff, reduceIte, reduceCtorEq, Int.reduceLT, Int.reduceLE, Int.reduceEq, Int.reduceNe, Int.reduceNeg, Int.reduceAdd, Int.reduceSub, Int.reduceMul, Int.reduceToNat, Int.reducePow, Int.reduceDiv, Int.reduceMod, Nat.reduceSucc, Nat.sub_zero, hmt, hk1, hd]))
      | ((with_reducible refine And.intro (encO.rows _) ?_))
      | ((first | (with_reducible first | refine ops_cons (fun K hK => ?_) | refine opsd_cons (fun K hK => ?_) | refine ops_nil ?_ | refine fit_i64 (by omega) ?_ | refine fit_u8 (by omega) ?_ | refine fit_u64 (by omega) ?_ | refine fit_u32 (by omega) ?_ | refine fit_any ?_ | refine quo_nn (by omega) ?_ | refine rem_nn (by omega) ?_ | refine quo_any ?_ | refine rem_any ?_ | refine sh_in (by simp only [IntKind.bits]; omega) ?_) | ((with_reducible refine opsd_nil ?_); refine And.intro (by kernel_rfl) ?_) | with_reducible refine callV_snap ?_ | ((with_reducible refine call_go madeFS madeF_ok ?_); refine ⟨(by first | exact alOk_nil _ | exact alOk_f rfl), _, _, madeF_at nums, ?_⟩) | ((with_reducible refine call_go ModS Mod_ok ?_); refine ⟨(by first | exact alOk_nil _ | exact alOk_f rfl), _, _, Mod_at kind 3 (by omega) (by omega), ?_⟩) | ((with_reducible refine call_go ModS Mod_ok ?_); refine ⟨(by first | exact alOk_nil _ | exact alOk_f rfl), _, _, Mod_at which _ (by omega) (by omega), ?_⟩) | ((with_reducible refine call_go OwnFS OwnF_ok ?_); refine ⟨(by first | exact alOk_nil _ | exact alOk_f rfl), _, _, OwnF_at l hl6, ?_⟩) | ((with_reducible refine call_go AddFS AddF_ok ?_); refine ⟨(by first | exact alOk_nil _ | exact alOk_f rfl), _, _, AddF_at l (1 + kind % 3, 1000, 2000) hl6, ?_⟩) | ((with_reducible refine call_go CheckS Check_ok ?_); refine ⟨(by first | exact alOk_nil _ | exact alOk_f rfl), _, _, Check_at (l ++ [(1 + kind % 3, 1000, 2000)]) hl7, ?_⟩) | ((with_reducible refine call_go DropFS DropF_ok ?_); refine ⟨(by first | exact alOk_nil _ | exact alOk_f rfl), _, _, DropF_at (l ++ [(1 + kind % 3, 1000, 2000)]) 1000 hl7, ?_⟩) | ((with_reducible refine call_go SameOS SameO_ok ?_); refine ⟨(by first | exact alOk_nil _ | exact alOk_f rfl), _, _, SameO_at l hl6, ?_⟩) | ((with_reducible refine call_go DropFS DropF_ok ?_); refine ⟨(by first | exact alOk_nil _ | exact alOk_f rfl), _, _, DropF_at l _ hl6, ?_⟩) | ((with_reducible refine call_go CheckS Check_ok ?_); refine ⟨(by first | exact alOk_nil _ | exact alOk_f rfl), _, _, Check_at (l.eraseIdx k) hl8, ?_⟩) | ((with_reducible refine call_go SameOS SameO_ok ?_); refine ⟨(by first | exact alOk_nil _ | exact alOk_f rfl), _, _, SameO_at (l.eraseIdx k) hl8, ?_⟩) | ((with_reducible refine call_go awakeS awake_ok ?_); refine ⟨(by first | exact alOk_nil _ | exact alOk_f rfl), _, _, awake_at , ?_⟩) | (with_reducible first | refine slice_old ?_ | refine app_grow ?_ | refine idx_map (by omega) ?_ | refine W_reg [(0, [0, 1, 2]), (1, [1, 2, 7]), (2, [2, 7, 8]), (3, [2, 7, 8, 9, 10]), (4, [2, 7, 8, 9, 10, 11]), (5, [2, 7, 8, 10, 11, 13, 14, 15]), (6, [2, 7, 63]), (7, [6]), (8, [2, 7, 66]), (9, [6]), (10, [7, 16]), (11, [7, 10, 16, 17, 18]), (12, [7, 10, 11, 16, 17, 18]), (13, [6])] ?_ | refine W_drw [(0, [0, 1, 2]), (1, [1, 2, 7]), (2, [2, 7, 8]), (3, [2, 7, 8, 9, 10]), (4, [2, 7, 8, 9, 10, 11]), (5, [2, 7, 8, 10, 11, 13, 14, 15]), (6, [2, 7, 63]), (7, [6]), (8, [2, 7, 66]), (9, [6]), (10, [7, 16]), (11, [7, 10, 16, 17, 18]), (12, [7, 10, 11, 16, 17, 18]), (13, [6])] (by kernel_rfl) ?_ | refine W_label ?_ | refine W_skip ?_ | refine W_exit ?_ | refine W_ret ?_ | refine end_at0 ?_) | (with_reducible refine And.intro (fun h => ?_) (fun h => ?_)) | (with_reducible refine And.intro (by omega) ?_)); (try simp only [go_sem, Nat.reduceAdd, Nat.reduceSub, Nat.reduceMul, Nat.reduceDiv, Nat.reduceMod, Nat.reducePow, Nat.reduceLT, Nat.reduceEqDiff, Nat.reduceBEq, Nat.reduceLeDiff, reduceIte, reduceCtorEq, Int.reduceLT, Int.reduceLE, Int.reduceEq, Int.reduceNe, Int.reduceNeg, Int.reduceAdd, Int.reduceSub, Int.reduceMul, Int.reduceToNat, Int.reducePow, Int.reduceDiv, Int.reduceMod, Nat.reduceSucc, hmd, h0, hk, hki, e1, e2, e3, e4, e5, e6, g1, g2, g3, g4, encDO, Nat.sub_zero, hmt, hk1, hd, hcat, hsl, Try.ntmps8, Try.results8, undS]))
      | fail)
end Go.Proofs.Ytpkiabhlmjnemaa
