/- ShrinkOne, by the engine. -/
import Derived.Test.YtpkiabhlmjnemaaShrX
namespace Go.Proofs.Ytpkiabhlmjnemaa
open Go.RowKit
set_option maxRecDepth 100000
set_option linter.unusedSimpArgs false
set_option linter.unusedVariables false

theorem idx_map2 {α : Type} {enc : α → List D} {l : List α} {k : Nat} {K : List D → List D → Prop} (h : k < l.length) (hk : ∃ ds, K (enc l[k]) ds) : ∃ r ds, (l.map enc)[k]? = some r ∧ K r ds := by
  obtain ⟨ds, hd⟩ := hk
  exact ⟨_, ds, by rw [List.getElem?_map, List.getElem?_eq_getElem h]; rfl, hd⟩
def setK (j : Int) (o : O) : O := (j, o.2)
/-- the first i objects have the kind j -/
def kdl (j : Int) (l : List O) (i : Nat) : List O := (l.take i).map (setK j) ++ l.drop i
theorem kdl_len (j : Int) (l : List O) (i : Nat) : (kdl j l i).length = l.length := by unfold kdl; simp; omega
theorem kdl_step (j : Int) (l : List O) (i : Nat) (h : i < l.length) : (kdl j l i).set i (j, (l[i]).2) = kdl j l (i + 1) := by
  unfold kdl
  have hl : ((l.take i).map (setK j)).length = i := by simp; omega
  rw [List.set_append_right _ _ (by omega), hl, Nat.sub_self, drop_get l i h, List.set_cons_zero, take_get l i h, List.map_append, List.append_assoc]
  rfl
theorem kdl_get (j : Int) (l : List O) (i : Nat) (h : i < l.length) : (kdl j l i)[i]'(by rw [kdl_len]; exact h) = l[i] := by
  unfold kdl
  have hl : ((l.take i).map (setK j)).length = i := by simp; omega
  have h2 : ∀ (a b : Nat) (ha : a < l.length) (hb : b < l.length), a = b → l[a] = l[b] := by intro a b ha hb e; subst e; rfl
  rw [List.getElem_append_right (by omega), List.getElem_drop]
  exact h2 _ _ _ _ (by omega)
theorem kdl_all (j : Int) (l : List O) : kdl j l l.length = l.map (setK j) := by unfold kdl; simp
theorem vl_kind {l : List O} (hv : Vl l) {j : Int} (hj : 1 ≤ j ∧ j ≤ 3) : Vl (l.map (setK j)) := by
  refine ⟨by simpa using hv.len, fun o ho => ?_, ?_, ?_⟩
  · obtain ⟨x, hx, rfl⟩ := List.mem_map.1 ho
    have := oneE_zero (hv.one x hx)
    exact oneE_ok (by simp only [setK]; omega) (by simp only [setK]; omega)
  · rw [List.pairwise_map]; exact hv.age
  · rw [List.pairwise_map]; exact hv.at_

def oneLS : Spec := { rel := fun args ins res outs => ∃ (nums : List Int) (kind n : Int), args = [dI nums, iv kind, iv n] ∧ ins = [] ∧ res = bv true ∧ outs = [] }
abbrev FairOkS : Spec := FairS
theorem FairOk_ok : Ok Try.prog 14 FairOkS := Fair_ok
theorem FairOk_at (l m : List O) (n : Int) (h : l.length ≤ 1000000) (he : oldE l n = 0) (hf : fairL l n = m) : FairOkS.rel [dO l, iv n] [] (.tup [.row 0 3 0 m.length, iv 0]) [.rows 34 3 (m.map encDO)] := ⟨l, n, h, rfl, rfl, by rw [he, hf]; rfl, by rw [he, hf]; rfl⟩
abbrev OldOkS : Spec := OldestS
theorem OldOk_ok : Ok Try.prog 16 OldOkS := Oldest_ok
theorem OldOk_at (l m : List O) (n : Int) (h : l.length ≤ 1000000) (he : oldE l n = 0) (hf : l.take n.toNat = m) : OldOkS.rel [dO l, iv n] [] (.tup [.row 0 3 0 m.length, iv 0]) [.rows 34 3 (m.map encDO)] := ⟨l, n, h, rfl, rfl, by rw [he, hf]; rfl, by rw [he, hf]; rfl⟩
set_option maxHeartbeats 4000000 in
theorem oneL_ok : Ok Try.prog 6 oneLS := by
  refine fn_ok oneLS Try.func6 rfl rfl ?_
  rintro args ins res outs ⟨nums, kind, n, rfl, rfl, rfl, rfl⟩
  refine ⟨by simp [Try.ntmps6], fun w0 V Bo mu0 => ?_⟩
  have hv := md_val nums
  have hlen := md_len nums
  generalize hmd : md nums = l at *
  have hl6 : l.length ≤ 1000000 := by omega
  obtain ⟨k, hk⟩ : ∃ k : Nat, n % 45 = k := ⟨(n % 45).toNat, by omega⟩
  obtain ⟨j, hj⟩ : ∃ j : Int, 1 + kind % 3 = j := ⟨_, rfl⟩
  have hj3 : j = 1 ∨ j = 2 ∨ j = 3 := by omega
  have hv2 := vl_kind hv (j := j) (by omega)
  have e1 : oldE (l.map (setK j)) k = 0 := oldE_ok (by rw [val_chk hv2]) (by omega)
  have e2 : fairL (l.map (setK j)) k = (l.map (setK j)).take k := fair_one hv2 (fun o ho => by obtain ⟨x, _, rfl⟩ := List.mem_map.1 ho; rfl) hj3 k
  have hm6 : (l.map (setK j)).length ≤ 1000000 := by simpa using hl6
  obtain ⟨M, hM⟩ : ∃ M, (l.map (setK j)).take k = M := ⟨_, rfl⟩
  rw [hM] at e2
  have hM6 : M.length ≤ 1000000 := by rw [← hM]; simp; omega
  have hM2 : (l.map (setK j)).take (k : Int).toNat = M := by simpa using hM
  repeat' (first
    | (with_reducible first | refine W_seq ?_ | refine W_condT rfl ?_ | refine W_condF rfl ?_ | refine W_tf rfl (fun h => ?_) (fun h => ?_) | refine W_block ?_ | refine W_scope ?_ | refine endQ_ret ?_ | refine endQ_normal ?_)
    | ((with_reducible first | refine hK _ ?_ | refine hK _ _ ?_); clear hK K)
    | ((first | (with_reducible first | refine ops_cons (fun K hK => ?_) | refine opsd_cons (fun K hK => ?_) | refine ops_nil ?_ | refine fit_i64 (by omega) ?_ | refine fit_u8 (by omega) ?_ | refine fit_u64 (by omega) ?_ | refine fit_u32 (by omega) ?_ | refine fit_any ?_ | refine quo_nn (by omega) ?_ | refine rem_nn (by omega) ?_ | refine quo_any ?_ | refine rem_any ?_ | refine sh_in (by simp only [IntKind.bits]; omega) ?_) | ((with_reducible refine opsd_nil ?_); refine And.intro (by kernel_rfl) ?_) | with_reducible refine callV_snap ?_ | ((with_reducible refine call_go madeS made_ok ?_); refine ⟨(by first | exact alOk_nil _ | exact alOk_f rfl), _, _, made_at nums, ?_⟩) | ((with_reducible refine call_go ModS Mod_ok ?_); refine ⟨(by first | exact alOk_nil _ | exact alOk_f rfl), _, _, Mod_at n 45 (by omega) (by omega), ?_⟩) | (with_reducible first | refine slice_old ?_ | refine app_grow ?_ | refine idx_map (by omega) ?_ | refine W_reg [(0, [0, 1, 2]), (1, [1, 7, 8]), (2, [1, 7, 8, 9]), (3, [1, 7, 8, 9, 21]), (4, [1, 7, 8, 9]), (5, [1, 7, 8, 9]), (6, [7, 8, 10, 11]), (7, [10, 11, 12, 13]), (8, [6])] ?_ | refine W_drw [(0, [0, 1, 2]), (1, [1, 7, 8]), (2, [1, 7, 8, 9]), (3, [1, 7, 8, 9, 21]), (4, [1, 7, 8, 9]), (5, [1, 7, 8, 9]), (6, [7, 8, 10, 11]), (7, [10, 11, 12, 13]), (8, [6])] (by kernel_rfl) ?_ | refine W_label ?_ | refine W_skip ?_ | refine W_exit ?_ | refine W_ret ?_ | refine end_at0 ?_) | (with_reducible refine And.intro (fun h => ?_) (fun h => ?_)) | (with_reducible refine And.intro (by omega) ?_)); (try simp only [go_sem, Nat.reduceAdd, Nat.reduceSub, Nat.reduceMul, Nat.reduceDiv, Nat.reduceMod, Nat.reducePow, Nat.reduceLT, Nat.reduceEqDiff, Nat.reduceBEq, Nat.reduceLeDiff, reduceIte, reduceCtorEq, Int.reduceLT, Int.reduceLE, Int.reduceEq, Int.reduceNe, Int.reduceNeg, Int.reduceAdd, Int.reduceSub, Int.reduceMul, Int.reduceToNat, Int.reducePow, Int.reduceDiv, Int.reduceMod, Nat.reduceSucc, hmd, hk, Try.ntmps6, Try.results6, oneLS]))
    | fail)
  refine W_loop (fun i : Nat => ⟨[(1, iv kind), (7, .row 0 3 0 l.length), (8, iv k), (9, iv i)], [some (.rows 34 3 ((kdl j l i).map encDO))]⟩) (fun i => i ≤ l.length) (fun i => l.length - i) 0 (Nat.zero_le _) [0] ?_ ?_
  · simp [go_sem, kdl]
  intro i hi
  by_cases hil : i < l.length
  · have hii : (i : Int) < l.length := by omega
    have hkl : i < (kdl j l i).length := by rw [kdl_len]; exact hil
    have hst := kdl_step j l i hil
    have hge := kdl_get j l i hil
    have hset : ((kdl j l i).map encDO).set i [.int .i64 j, .int .u64 (l[i]).2.1, .int .i64 (l[i]).2.2] = (kdl j l (i + 1)).map encDO := by rw [← hst, List.map_set]; rfl
    repeat' (first
      | (with_reducible first | refine W_seq ?_ | refine W_condT rfl ?_ | refine W_condF rfl ?_ | refine W_tf rfl (fun h => ?_) (fun h => ?_) | refine W_block ?_ | refine W_scope ?_ | refine endQ_ret ?_ | refine endQ_normal ?_)
      | ((with_reducible first | refine hK _ ?_ | refine hK _ _ ?_); clear hK K)
      | ((with_reducible refine idx_map2 hkl ?_); simp only [go_sem, Nat.reduceAdd, Nat.reduceSub, Nat.reduceMul, Nat.reduceDiv, Nat.reduceMod, Nat.reducePow, Nat.reduceLT, Nat.reduceEqDiff, Nat.reduceBEq, Nat.reduceLeDiff, reduceIte, reduceCtorEq, Int.reduceLT, Int.reduceLE, Int.reduceEq, Int.reduceNe, Int.reduceNeg, Int.reduceAdd, Int.reduceSub, Int.reduceMul, Int.reduceToNat, Int.reducePow, Int.reduceDiv, Int.reduceMod, Nat.reduceSucc, encDO, hge, hset])
      | ((first | (with_reducible first | refine ops_cons (fun K hK => ?_) | refine opsd_cons (fun K hK => ?_) | refine ops_nil ?_ | refine fit_i64 (by omega) ?_ | refine fit_u8 (by omega) ?_ | refine fit_u64 (by omega) ?_ | refine fit_u32 (by omega) ?_ | refine fit_any ?_ | refine quo_nn (by omega) ?_ | refine rem_nn (by omega) ?_ | refine quo_any ?_ | refine rem_any ?_ | refine sh_in (by simp only [IntKind.bits]; omega) ?_) | ((with_reducible refine opsd_nil ?_); refine And.intro (by kernel_rfl) ?_) | with_reducible refine callV_snap ?_ | ((with_reducible refine call_go ModS Mod_ok ?_); refine ⟨(by first | exact alOk_nil _ | exact alOk_f rfl), _, _, Mod_at kind 3 (by omega) (by omega), ?_⟩) | (with_reducible first | refine slice_old ?_ | refine app_grow ?_ | refine idx_map (by omega) ?_ | refine W_reg [(0, [0, 1, 2]), (1, [1, 7, 8]), (2, [1, 7, 8, 9]), (3, [1, 7, 8, 9, 21]), (4, [1, 7, 8, 9]), (5, [1, 7, 8, 9]), (6, [7, 8, 10, 11]), (7, [10, 11, 12, 13]), (8, [6])] ?_ | refine W_drw [(0, [0, 1, 2]), (1, [1, 7, 8]), (2, [1, 7, 8, 9]), (3, [1, 7, 8, 9, 21]), (4, [1, 7, 8, 9]), (5, [1, 7, 8, 9]), (6, [7, 8, 10, 11]), (7, [10, 11, 12, 13]), (8, [6])] (by kernel_rfl) ?_ | refine W_label ?_ | refine W_skip ?_ | refine W_exit ?_ | refine W_ret ?_ | refine end_at0 ?_) | (with_reducible refine And.intro (fun h => ?_) (fun h => ?_)) | (with_reducible refine And.intro (by omega) ?_)); (try simp only [go_sem, Nat.reduceAdd, Nat.reduceSub, Nat.reduceMul, Nat.reduceDiv, Nat.reduceMod, Nat.reducePow, Nat.reduceLT, Nat.reduceEqDiff, Nat.reduceBEq, Nat.reduceLeDiff, reduceIte, reduceCtorEq, Int.reduceLT, Int.reduceLE, Int.reduceEq, Int.reduceNe, Int.reduceNeg, Int.reduceAdd, Int.reduceSub, Int.reduceMul, Int.reduceToNat, Int.reducePow, Int.reduceDiv, Int.reduceMod, Nat.reduceSucc, hii, hj, encDO, hge, hset, Try.ntmps6, Try.results6, oneLS]))
      | fail)
    refine ⟨i + 1, [0], by omega, by omega, ?_⟩
    simp [go_sem, hset]
  · have hii : ¬ (i : Int) < l.length := by omega
    obtain rfl : i = l.length := by omega
    have hka := kdl_all j l
    have htk : List.take l.length (List.map encDO (l.map (setK j))) = List.map encDO (l.map (setK j)) := List.take_of_length_le (by simp)
    have htM : List.take M.length (List.map encDO M) = List.map encDO M := List.take_of_length_le (by simp)
    have hll : (l.map (setK j)).length = l.length := by simp
    rw [hka]
    generalize l.map (setK j) = L at *
    repeat' (first
      | (with_reducible first | refine W_seq ?_ | refine W_condT rfl ?_ | refine W_condF rfl ?_ | refine W_tf rfl (fun h => ?_) (fun h => ?_) | refine W_block ?_ | refine W_scope ?_ | refine endQ_ret ?_ | refine endQ_normal ?_)
      | ((with_reducible first | refine hK _ ?_ | refine hK _ _ ?_); clear hK K)
      | ((first | (with_reducible first | refine ops_cons (fun K hK => ?_) | refine opsd_cons (fun K hK => ?_) | refine ops_nil ?_ | refine fit_i64 (by omega) ?_ | refine fit_u8 (by omega) ?_ | refine fit_u64 (by omega) ?_ | refine fit_u32 (by omega) ?_ | refine fit_any ?_ | refine quo_nn (by omega) ?_ | refine rem_nn (by omega) ?_ | refine quo_any ?_ | refine rem_any ?_ | refine sh_in (by simp only [IntKind.bits]; omega) ?_) | ((with_reducible refine opsd_nil ?_); refine And.intro (by kernel_rfl) ?_) | with_reducible refine callV_snap ?_ | ((with_reducible refine call_go FairOkS FairOk_ok ?_); refine ⟨(by first | exact alOk_nil _ | exact alOk_f rfl), _, _, FairOk_at L M k hm6 e1 e2, ?_⟩) | ((with_reducible refine call_go OldOkS OldOk_ok ?_); refine ⟨(by first | exact alOk_nil _ | exact alOk_f rfl), _, _, OldOk_at L M k hm6 e1 hM2, ?_⟩) | ((with_reducible refine call_go SameOS SameO_ok ?_); refine ⟨(by first | exact alOk_nil _ | exact alOk_f rfl), _, _, SameO_at M hM6, ?_⟩) | ((with_reducible refine call_go awakeS awake_ok ?_); refine ⟨(by first | exact alOk_nil _ | exact alOk_f rfl), _, _, awake_at , ?_⟩) | (with_reducible first | refine slice_old ?_ | refine app_grow ?_ | refine idx_map (by omega) ?_ | refine W_reg [(0, [0, 1, 2]), (1, [1, 7, 8]), (2, [1, 7, 8, 9]), (3, [1, 7, 8, 9, 21]), (4, [1, 7, 8, 9]), (5, [1, 7, 8, 9]), (6, [7, 8, 10, 11]), (7, [10, 11, 12, 13]), (8, [6])] ?_ | refine W_drw [(0, [0, 1, 2]), (1, [1, 7, 8]), (2, [1, 7, 8, 9]), (3, [1, 7, 8, 9, 21]), (4, [1, 7, 8, 9]), (5, [1, 7, 8, 9]), (6, [7, 8, 10, 11]), (7, [10, 11, 12, 13]), (8, [6])] (by kernel_rfl) ?_ | refine W_label ?_ | refine W_skip ?_ | refine W_exit ?_ | refine W_ret ?_ | refine end_at0 ?_) | (with_reducible refine And.intro (fun h => ?_) (fun h => ?_)) | (with_reducible refine And.intro (by omega) ?_)); (try simp only [go_sem, Nat.reduceAdd, Nat.reduceSub, Nat.reduceMul, Nat.reduceDiv, Nat.reduceMod, Nat.reducePow, Nat.reduceLT, Nat.reduceEqDiff, Nat.reduceBEq, Nat.reduceLeDiff, reduceIte, reduceCtorEq, Int.reduceLT, Int.reduceLE, Int.reduceEq, Int.reduceNe, Int.reduceNeg, Int.reduceAdd, Int.reduceSub, Int.reduceMul, Int.reduceToNat, Int.reducePow, Int.reduceDiv, Int.reduceMod, Nat.reduceSucc, hii, htk, htM, hll, Try.ntmps6, Try.results6, oneLS]))
      | fail)
end Go.Proofs.Ytpkiabhlmjnemaa
