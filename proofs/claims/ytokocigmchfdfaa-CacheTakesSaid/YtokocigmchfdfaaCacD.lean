/- Freeing an object, by the engine. -/
import Derived.Test.YtokocigmchfdfaaCacC
namespace Go.Proofs.Ytokocigmchfdfaa
open Go.RowKit
set_option maxRecDepth 100000
set_option linter.unusedSimpArgs false
set_option linter.unusedVariables false

def SplitS : Spec := { rel := fun args ins res outs => ∃ o : Int, 0 ≤ o ∧ o < 2048 ∧ args = [iv o] ∧ ins = [] ∧ res = .tup [iv (o / 8), iv (o % 8), iv 0] ∧ outs = [] }
theorem Split_at (o : Int) (h0 : 0 ≤ o) (h1 : o < 2048) : SplitS.rel [iv o] [] (.tup [iv (o / 8), iv (o % 8), iv 0]) [] := ⟨o, h0, h1, rfl, rfl, rfl, rfl⟩
theorem Split_ok : Ok Try.prog 48 SplitS := by
  refine fn_ok SplitS Try.func48 rfl rfl ?_
  rintro args ins res outs ⟨o, h0, h1, rfl, rfl, rfl, rfl⟩
  refine ⟨by simp [Try.ntmps48], fun w0 V Bo mu0 => ?_⟩
  have e0 : ¬ o < 0 := by omega
  have e1 : ¬ 2048 ≤ o := by omega
  repeat' (first
    | (with_reducible first | refine W_seq ?_ | refine W_condT rfl ?_ | refine W_condF rfl ?_ | refine W_tf rfl (fun h => ?_) (fun h => ?_) | refine W_block ?_ | refine W_scope ?_ | refine endQ_ret ?_ | refine endQ_normal ?_)
    | ((with_reducible first | refine hK _ ?_ | refine hK _ _ ?_); clear hK K)
    | ((first | (with_reducible first | refine ops_cons (fun K hK => ?_) | refine opsd_cons (fun K hK => ?_) | refine ops_nil ?_ | refine fit_i64 (by omega) ?_ | refine fit_u8 (by omega) ?_ | refine fit_u64 (by omega) ?_ | refine fit_u32 (by omega) ?_ | refine fit_any ?_ | refine quo_nn (by omega) ?_ | refine rem_nn (by omega) ?_ | refine quo_any ?_ | refine rem_any ?_ | refine sh_in (by simp only [IntKind.bits]; omega) ?_) | ((with_reducible refine opsd_nil ?_); refine And.intro (by kernel_rfl) ?_) | with_reducible refine callV_snap ?_ | (with_reducible first | refine slice_old ?_ | refine app_grow ?_ | refine idx_map (by omega) ?_ | refine W_reg [(0, [0]), (1, [0, 10]), (2, [2, 3, 4]), (3, [2, 3, 4])] ?_ | refine W_drw [(0, [0]), (1, [0, 10]), (2, [2, 3, 4]), (3, [2, 3, 4])] (by kernel_rfl) ?_ | refine W_label ?_ | refine W_skip ?_ | refine W_exit ?_ | refine W_ret ?_ | refine end_at0 ?_) | (with_reducible refine And.intro (fun h => ?_) (fun h => ?_)) | (with_reducible refine And.intro (by omega) ?_)); (try simp only [go_sem, Nat.reduceAdd, Nat.reduceSub, Nat.reduceMul, Nat.reduceDiv, Nat.reduceMod, Nat.reducePow, Nat.reduceLT, Nat.reduceEqDiff, Nat.reduceBEq, Nat.reduceLeDiff, reduceIte, reduceCtorEq, Int.reduceLT, Int.reduceLE, Int.reduceEq, Int.reduceNe, Int.reduceNeg, Int.reduceAdd, Int.reduceSub, Int.reduceMul, Int.reduceToNat, Int.reducePow, Int.reduceDiv, Int.reduceMod, Nat.reduceSucc, e0, e1, Try.ntmps48, Try.results48, SplitS]))
    | fail)
def SplitNoS : Spec := { rel := fun args ins res outs => ∃ o : Int, (o < 0 ∨ 2048 ≤ o) ∧ args = [iv o] ∧ ins = [] ∧ res = .tup [iv 0, iv 0, iv 2] ∧ outs = [] }
theorem SplitNo_at (o : Int) (h : o < 0 ∨ 2048 ≤ o) : SplitNoS.rel [iv o] [] (.tup [iv 0, iv 0, iv 2]) [] := ⟨o, h, rfl, rfl, rfl, rfl⟩
theorem SplitNo_ok : Ok Try.prog 48 SplitNoS := by
  refine fn_ok SplitNoS Try.func48 rfl rfl ?_
  rintro args ins res outs ⟨o, h, rfl, rfl, rfl, rfl⟩
  refine ⟨by simp [Try.ntmps48], fun w0 V Bo mu0 => ?_⟩
  by_cases e0 : o < 0
  · skip
    repeat' (first
      | (with_reducible first | refine W_seq ?_ | refine W_condT rfl ?_ | refine W_condF rfl ?_ | refine W_tf rfl (fun h => ?_) (fun h => ?_) | refine W_block ?_ | refine W_scope ?_ | refine endQ_ret ?_ | refine endQ_normal ?_)
      | ((with_reducible first | refine hK _ ?_ | refine hK _ _ ?_); clear hK K)
      | ((first | (with_reducible first | refine ops_cons (fun K hK => ?_) | refine opsd_cons (fun K hK => ?_) | refine ops_nil ?_ | refine fit_i64 (by omega) ?_ | refine fit_u8 (by omega) ?_ | refine fit_u64 (by omega) ?_ | refine fit_u32 (by omega) ?_ | refine fit_any ?_ | refine quo_nn (by omega) ?_ | refine rem_nn (by omega) ?_ | refine quo_any ?_ | refine rem_any ?_ | refine sh_in (by simp only [IntKind.bits]; omega) ?_) | ((with_reducible refine opsd_nil ?_); refine And.intro (by kernel_rfl) ?_) | with_reducible refine callV_snap ?_ | (with_reducible first | refine slice_old ?_ | refine app_grow ?_ | refine idx_map (by omega) ?_ | refine W_reg [(0, [0]), (1, [0, 10]), (2, [2, 3, 4]), (3, [2, 3, 4])] ?_ | refine W_drw [(0, [0]), (1, [0, 10]), (2, [2, 3, 4]), (3, [2, 3, 4])] (by kernel_rfl) ?_ | refine W_label ?_ | refine W_skip ?_ | refine W_exit ?_ | refine W_ret ?_ | refine end_at0 ?_) | (with_reducible refine And.intro (fun h => ?_) (fun h => ?_)) | (with_reducible refine And.intro (by omega) ?_)); (try simp only [go_sem, Nat.reduceAdd, Nat.reduceSub, Nat.reduceMul, Nat.reduceDiv, Nat.reduceMod, Nat.reducePow, Nat.reduceLT, Nat.reduceEqDiff, Nat.reduceBEq, Nat.reduceLeDiff, reduceIte, reduceCtorEq, Int.reduceLT, Int.reduceLE, Int.reduceEq, Int.reduceNe, Int.reduceNeg, Int.reduceAdd, Int.reduceSub, Int.reduceMul, Int.reduceToNat, Int.reducePow, Int.reduceDiv, Int.reduceMod, Nat.reduceSucc, e0, Try.ntmps48, Try.results48, SplitNoS]))
      | fail)
  · have e1 : 2048 ≤ o := by omega
    repeat' (first
      | (with_reducible first | refine W_seq ?_ | refine W_condT rfl ?_ | refine W_condF rfl ?_ | refine W_tf rfl (fun h => ?_) (fun h => ?_) | refine W_block ?_ | refine W_scope ?_ | refine endQ_ret ?_ | refine endQ_normal ?_)
      | ((with_reducible first | refine hK _ ?_ | refine hK _ _ ?_); clear hK K)
      | ((first | (with_reducible first | refine ops_cons (fun K hK => ?_) | refine opsd_cons (fun K hK => ?_) | refine ops_nil ?_ | refine fit_i64 (by omega) ?_ | refine fit_u8 (by omega) ?_ | refine fit_u64 (by omega) ?_ | refine fit_u32 (by omega) ?_ | refine fit_any ?_ | refine quo_nn (by omega) ?_ | refine rem_nn (by omega) ?_ | refine quo_any ?_ | refine rem_any ?_ | refine sh_in (by simp only [IntKind.bits]; omega) ?_) | ((with_reducible refine opsd_nil ?_); refine And.intro (by kernel_rfl) ?_) | with_reducible refine callV_snap ?_ | (with_reducible first | refine slice_old ?_ | refine app_grow ?_ | refine idx_map (by omega) ?_ | refine W_reg [(0, [0]), (1, [0, 10]), (2, [2, 3, 4]), (3, [2, 3, 4])] ?_ | refine W_drw [(0, [0]), (1, [0, 10]), (2, [2, 3, 4]), (3, [2, 3, 4])] (by kernel_rfl) ?_ | refine W_label ?_ | refine W_skip ?_ | refine W_exit ?_ | refine W_ret ?_ | refine end_at0 ?_) | (with_reducible refine And.intro (fun h => ?_) (fun h => ?_)) | (with_reducible refine And.intro (by omega) ?_)); (try simp only [go_sem, Nat.reduceAdd, Nat.reduceSub, Nat.reduceMul, Nat.reduceDiv, Nat.reduceMod, Nat.reducePow, Nat.reduceLT, Nat.reduceEqDiff, Nat.reduceBEq, Nat.reduceLeDiff, reduceIte, reduceCtorEq, Int.reduceLT, Int.reduceLE, Int.reduceEq, Int.reduceNe, Int.reduceNeg, Int.reduceAdd, Int.reduceSub, Int.reduceMul, Int.reduceToNat, Int.reducePow, Int.reduceDiv, Int.reduceMod, Nat.reduceSucc, e0, e1, Try.ntmps48, Try.results48, SplitNoS]))
      | fail)

theorem usd_and {u p : Int} (h0 : 0 ≤ u) (h1 : u ≤ 255) (p0 : 0 ≤ p) (p1 : p ≤ 7) (h : usd u p = true) : ¬ bits .and .u8 u (2 ^ p.toNat) = 0 := by
  have := and_bit u p h0 h1 p0 p1
  rw [h] at this
  simpa using this
theorem usd_not {u p : Int} (h0 : 0 ≤ u) (h1 : u ≤ 255) (p0 : 0 ≤ p) (p1 : p ≤ 7) (h : usd u p = false) : bits .and .u8 u (2 ^ p.toNat) = 0 := by
  have := and_bit u p h0 h1 p0 p1
  rw [h] at this
  simpa using this

def sFreeS : Spec := { rel := fun args ins res outs => ∃ f u o : Int, 0 ≤ f ∧ f < 256 ∧ 0 ≤ u ∧ u ≤ 255 ∧ 0 ≤ o ∧ o < 2048 ∧ o / 8 = f ∧ usd u (o % 8) = true ∧ args = [sv f u, iv o] ∧ ins = [] ∧ res = .tup [sv f (u - 2 ^ (o % 8).toNat), iv 0] ∧ outs = [] }
theorem sFree_at (f u o : Int) (f0 : 0 ≤ f) (f1 : f < 256) (u0 : 0 ≤ u) (u1 : u ≤ 255) (o0 : 0 ≤ o) (o1 : o < 2048) (hf : o / 8 = f) (hu : usd u (o % 8) = true) : sFreeS.rel [sv f u, iv o] [] (.tup [sv f (u - 2 ^ (o % 8).toNat), iv 0]) [] := ⟨f, u, o, f0, f1, u0, u1, o0, o1, hf, hu, rfl, rfl, rfl, rfl⟩
set_option maxHeartbeats 1000000 in
theorem sFree_ok : Ok Try.prog 49 sFreeS := by
  refine fn_ok sFreeS Try.func49 rfl rfl ?_
  rintro args ins res outs ⟨f, u, o, f0, f1, u0, u1, o0, o1, hf, hu, rfl, rfl, rfl, rfl⟩
  refine ⟨by simp [Try.ntmps49], fun w0 V Bo mu0 => ?_⟩
  have e1 : schk f = 0 := by simp [schk]; omega
  have p0 : 0 ≤ o % 8 := by omega
  have p1 : o % 8 ≤ 7 := by omega
  have e2 := usd_and u0 u1 p0 p1 hu
  have e3 := andNot_used u (o % 8) u0 u1 p0 p1 hu
  repeat' (first
    | (with_reducible first | refine W_seq ?_ | refine W_condT rfl ?_ | refine W_condF rfl ?_ | refine W_tf rfl (fun h => ?_) (fun h => ?_) | refine W_block ?_ | refine W_scope ?_ | refine endQ_ret ?_ | refine endQ_normal ?_)
    | ((with_reducible first | refine hK _ ?_ | refine hK _ _ ?_); clear hK K)
    | ((first | (with_reducible first | refine ops_cons (fun K hK => ?_) | refine opsd_cons (fun K hK => ?_) | refine ops_nil ?_ | refine fit_i64 (by omega) ?_ | refine fit_u8 (by omega) ?_ | refine fit_u64 (by omega) ?_ | refine fit_u32 (by omega) ?_ | refine fit_any ?_ | refine quo_nn (by omega) ?_ | refine rem_nn (by omega) ?_ | refine quo_any ?_ | refine rem_any ?_ | refine sh_in (by simp only [IntKind.bits]; omega) ?_) | ((with_reducible refine opsd_nil ?_); refine And.intro (by kernel_rfl) ?_) | with_reducible refine callV_snap ?_ | ((with_reducible refine call_go sckS sck_ok ?_); refine ⟨(by first | exact alOk_nil _ | exact alOk_f rfl), _, _, sck_at _ _, ?_⟩) | ((with_reducible refine call_go SplitS Split_ok ?_); refine ⟨(by first | exact alOk_nil _ | exact alOk_f rfl), _, _, Split_at _ o0 o1, ?_⟩) | ((with_reducible refine call_go bitS bit_ok ?_); refine ⟨(by first | exact alOk_nil _ | exact alOk_f rfl), _, _, bit_at _ p0 p1, ?_⟩) | (with_reducible first | refine slice_old ?_ | refine app_grow ?_ | refine idx_map (by omega) ?_ | refine W_reg [(0, [1, 2, 4]), (1, [1, 2, 4, 6]), (2, [1, 2, 4, 6, 13]), (3, [4, 5]), (4, [2, 4, 7, 8, 9]), (5, [2, 4, 7, 8, 9, 23]), (6, [4, 5]), (7, [2, 4, 8, 37]), (8, [4, 5]), (9, [2, 4]), (10, [4, 5])] ?_ | refine W_drw [(0, [1, 2, 4]), (1, [1, 2, 4, 6]), (2, [1, 2, 4, 6, 13]), (3, [4, 5]), (4, [2, 4, 7, 8, 9]), (5, [2, 4, 7, 8, 9, 23]), (6, [4, 5]), (7, [2, 4, 8, 37]), (8, [4, 5]), (9, [2, 4]), (10, [4, 5])] (by kernel_rfl) ?_ | refine W_label ?_ | refine W_skip ?_ | refine W_exit ?_ | refine W_ret ?_ | refine end_at0 ?_) | (with_reducible refine And.intro (fun h => ?_) (fun h => ?_)) | (with_reducible refine And.intro (by omega) ?_)); (try simp only [go_sem, Nat.reduceAdd, Nat.reduceSub, Nat.reduceMul, Nat.reduceDiv, Nat.reduceMod, Nat.reducePow, Nat.reduceLT, Nat.reduceEqDiff, Nat.reduceBEq, Nat.reduceLeDiff, reduceIte, reduceCtorEq, Int.reduceLT, Int.reduceLE, Int.reduceEq, Int.reduceNe, Int.reduceNeg, Int.reduceAdd, Int.reduceSub, Int.reduceMul, Int.reduceToNat, Int.reducePow, Int.reduceDiv, Int.reduceMod, Nat.reduceSucc, e1, hf, e2, e3, Try.ntmps49, Try.results49, sFreeS]))
    | fail)
def sFreeNoS : Spec := { rel := fun args ins res outs => ∃ f u o : Int, 0 ≤ f ∧ f < 256 ∧ 0 ≤ u ∧ u ≤ 255 ∧ 0 ≤ o ∧ o < 2048 ∧ o / 8 = f ∧ usd u (o % 8) = false ∧ args = [sv f u, iv o] ∧ ins = [] ∧ res = .tup [sv 0 0, iv 6] ∧ outs = [] }
theorem sFreeNo_at (f u o : Int) (f0 : 0 ≤ f) (f1 : f < 256) (u0 : 0 ≤ u) (u1 : u ≤ 255) (o0 : 0 ≤ o) (o1 : o < 2048) (hf : o / 8 = f) (hu : usd u (o % 8) = false) : sFreeNoS.rel [sv f u, iv o] [] (.tup [sv 0 0, iv 6]) [] := ⟨f, u, o, f0, f1, u0, u1, o0, o1, hf, hu, rfl, rfl, rfl, rfl⟩
set_option maxHeartbeats 1000000 in
theorem sFreeNo_ok : Ok Try.prog 49 sFreeNoS := by
  refine fn_ok sFreeNoS Try.func49 rfl rfl ?_
  rintro args ins res outs ⟨f, u, o, f0, f1, u0, u1, o0, o1, hf, hu, rfl, rfl, rfl, rfl⟩
  refine ⟨by simp [Try.ntmps49], fun w0 V Bo mu0 => ?_⟩
  have e1 : schk f = 0 := by simp [schk]; omega
  have p0 : 0 ≤ o % 8 := by omega
  have p1 : o % 8 ≤ 7 := by omega
  have e2 := usd_not u0 u1 p0 p1 hu
  repeat' (first
    | (with_reducible first | refine W_seq ?_ | refine W_condT rfl ?_ | refine W_condF rfl ?_ | refine W_tf rfl (fun h => ?_) (fun h => ?_) | refine W_block ?_ | refine W_scope ?_ | refine endQ_ret ?_ | refine endQ_normal ?_)
    | ((with_reducible first | refine hK _ ?_ | refine hK _ _ ?_); clear hK K)
    | ((first | (with_reducible first | refine ops_cons (fun K hK => ?_) | refine opsd_cons (fun K hK => ?_) | refine ops_nil ?_ | refine fit_i64 (by omega) ?_ | refine fit_u8 (by omega) ?_ | refine fit_u64 (by omega) ?_ | refine fit_u32 (by omega) ?_ | refine fit_any ?_ | refine quo_nn (by omega) ?_ | refine rem_nn (by omega) ?_ | refine quo_any ?_ | refine rem_any ?_ | refine sh_in (by simp only [IntKind.bits]; omega) ?_) | ((with_reducible refine opsd_nil ?_); refine And.intro (by kernel_rfl) ?_) | with_reducible refine callV_snap ?_ | ((with_reducible refine call_go sckS sck_ok ?_); refine ⟨(by first | exact alOk_nil _ | exact alOk_f rfl), _, _, sck_at _ _, ?_⟩) | ((with_reducible refine call_go SplitS Split_ok ?_); refine ⟨(by first | exact alOk_nil _ | exact alOk_f rfl), _, _, Split_at _ o0 o1, ?_⟩) | ((with_reducible refine call_go bitS bit_ok ?_); refine ⟨(by first | exact alOk_nil _ | exact alOk_f rfl), _, _, bit_at _ p0 p1, ?_⟩) | (with_reducible first | refine slice_old ?_ | refine app_grow ?_ | refine idx_map (by omega) ?_ | refine W_reg [(0, [1, 2, 4]), (1, [1, 2, 4, 6]), (2, [1, 2, 4, 6, 13]), (3, [4, 5]), (4, [2, 4, 7, 8, 9]), (5, [2, 4, 7, 8, 9, 23]), (6, [4, 5]), (7, [2, 4, 8, 37]), (8, [4, 5]), (9, [2, 4]), (10, [4, 5])] ?_ | refine W_drw [(0, [1, 2, 4]), (1, [1, 2, 4, 6]), (2, [1, 2, 4, 6, 13]), (3, [4, 5]), (4, [2, 4, 7, 8, 9]), (5, [2, 4, 7, 8, 9, 23]), (6, [4, 5]), (7, [2, 4, 8, 37]), (8, [4, 5]), (9, [2, 4]), (10, [4, 5])] (by kernel_rfl) ?_ | refine W_label ?_ | refine W_skip ?_ | refine W_exit ?_ | refine W_ret ?_ | refine end_at0 ?_) | (with_reducible refine And.intro (fun h => ?_) (fun h => ?_)) | (with_reducible refine And.intro (by omega) ?_)); (try simp only [go_sem, Nat.reduceAdd, Nat.reduceSub, Nat.reduceMul, Nat.reduceDiv, Nat.reduceMod, Nat.reducePow, Nat.reduceLT, Nat.reduceEqDiff, Nat.reduceBEq, Nat.reduceLeDiff, reduceIte, reduceCtorEq, Int.reduceLT, Int.reduceLE, Int.reduceEq, Int.reduceNe, Int.reduceNeg, Int.reduceAdd, Int.reduceSub, Int.reduceMul, Int.reduceToNat, Int.reducePow, Int.reduceDiv, Int.reduceMod, Nat.reduceSucc, e1, hf, e2, Try.ntmps49, Try.results49, sFreeNoS]))
    | fail)

theorem idx_map2 {α : Type} {enc : α → List D} {l : List α} {k : Nat} {K : List D → List D → Prop} (h : k < l.length) (hk : ∃ ds, K (enc l[k]) ds) : ∃ r ds, (l.map enc)[k]? = some r ∧ K r ds := by
  obtain ⟨ds, hd⟩ := hk
  exact ⟨_, ds, by rw [List.getElem?_map, List.getElem?_eq_getElem h]; rfl, hd⟩

/-- the list with another slab in a place -/
theorem set_row (c : List (Int × Int)) (p : Nat) (hp : p < c.length) (v : Int) : (c.map encDS).set p [.int .i64 (c[p]).1, .int .u8 v] = (c.set p ((c[p]).1, v)).map encDS := by
  rw [List.map_set]; rfl

def FreeBadS : Spec := { rel := fun args ins res outs => ∃ (c : List (Int × Int)) (o : Int), c.length ≤ 1000000 ∧ (cc c).1 ≠ 0 ∧ args = [dS c, iv o] ∧ ins = [] ∧ res = .tup [.nil, iv 0, iv (cc c).1] ∧ outs = [] }
theorem FreeBad_at (c : List (Int × Int)) (o : Int) (h : c.length ≤ 1000000) (hc : (cc c).1 ≠ 0) : FreeBadS.rel [dS c, iv o] [] (.tup [.nil, iv 0, iv (cc c).1]) [] := ⟨c, o, h, hc, rfl, rfl, rfl, rfl⟩
theorem FreeBad_ok : Ok Try.prog 14 FreeBadS := by
  refine fn_ok FreeBadS Try.func14 rfl rfl ?_
  rintro args ins res outs ⟨c, o, hc, hb, rfl, rfl, rfl, rfl⟩
  refine ⟨by simp [Try.ntmps14], fun w0 V Bo mu0 => ?_⟩
  repeat' (first
    | (with_reducible first | refine W_seq ?_ | refine W_condT rfl ?_ | refine W_condF rfl ?_ | refine W_tf rfl (fun h => ?_) (fun h => ?_) | refine W_block ?_ | refine W_scope ?_ | refine endQ_ret ?_ | refine endQ_normal ?_)
    | ((with_reducible first | refine hK _ ?_ | refine hK _ _ ?_); clear hK K)
    | ((first | (with_reducible first | refine ops_cons (fun K hK => ?_) | refine opsd_cons (fun K hK => ?_) | refine ops_nil ?_ | refine fit_i64 (by omega) ?_ | refine fit_u8 (by omega) ?_ | refine fit_u64 (by omega) ?_ | refine fit_u32 (by omega) ?_ | refine fit_any ?_ | refine quo_nn (by omega) ?_ | refine rem_nn (by omega) ?_ | refine quo_any ?_ | refine rem_any ?_ | refine sh_in (by simp only [IntKind.bits]; omega) ?_) | ((with_reducible refine opsd_nil ?_); refine And.intro (by kernel_rfl) ?_) | with_reducible refine callV_snap ?_ | ((with_reducible refine call_go CheckS Check_ok ?_); refine ⟨(by first | exact alOk_nil _ | exact alOk_f rfl), _, _, Check_at _ hc, ?_⟩) | (with_reducible first | refine slice_old ?_ | refine app_grow ?_ | refine idx_map (by omega) ?_ | refine W_reg [(0, [0, 1]), (1, [0, 1, 7]), (2, [0, 1, 7, 22]), (3, [4, 5, 6]), (4, [0, 1, 9, 11]), (5, [0, 1, 9, 11, 31]), (6, [4, 5, 6]), (7, [0, 1, 9, 12, 13]), (8, [0, 1, 9, 12, 40]), (9, [4, 5, 6]), (10, [0, 9, 11, 12, 14]), (11, [0, 9, 11, 12, 14, 51]), (12, [4, 5, 6]), (13, [4, 9, 12, 14]), (14, [4, 9, 12, 14, 15]), (15, [4, 9, 12, 15]), (16, [4, 9, 12, 67]), (17, [4, 5, 6]), (18, [4, 5, 6])] ?_ | refine W_drw [(0, [0, 1]), (1, [0, 1, 7]), (2, [0, 1, 7, 22]), (3, [4, 5, 6]), (4, [0, 1, 9, 11]), (5, [0, 1, 9, 11, 31]), (6, [4, 5, 6]), (7, [0, 1, 9, 12, 13]), (8, [0, 1, 9, 12, 40]), (9, [4, 5, 6]), (10, [0, 9, 11, 12, 14]), (11, [0, 9, 11, 12, 14, 51]), (12, [4, 5, 6]), (13, [4, 9, 12, 14]), (14, [4, 9, 12, 14, 15]), (15, [4, 9, 12, 15]), (16, [4, 9, 12, 67]), (17, [4, 5, 6]), (18, [4, 5, 6])] (by kernel_rfl) ?_ | refine W_label ?_ | refine W_skip ?_ | refine W_exit ?_ | refine W_ret ?_ | refine end_at0 ?_) | (with_reducible refine And.intro (fun h => ?_) (fun h => ?_)) | (with_reducible refine And.intro (by omega) ?_)); (try simp only [go_sem, Nat.reduceAdd, Nat.reduceSub, Nat.reduceMul, Nat.reduceDiv, Nat.reduceMod, Nat.reducePow, Nat.reduceLT, Nat.reduceEqDiff, Nat.reduceBEq, Nat.reduceLeDiff, reduceIte, reduceCtorEq, Int.reduceLT, Int.reduceLE, Int.reduceEq, Int.reduceNe, Int.reduceNeg, Int.reduceAdd, Int.reduceSub, Int.reduceMul, Int.reduceToNat, Int.reducePow, Int.reduceDiv, Int.reduceMod, Nat.reduceSucc, hb, Try.ntmps14, Try.results14, FreeBadS]))
    | fail)
def FreeRgS : Spec := { rel := fun args ins res outs => ∃ (c : List (Int × Int)) (o : Int), c.length ≤ 1000000 ∧ Val c ∧ (o < 0 ∨ 2048 ≤ o) ∧ args = [dS c, iv o] ∧ ins = [] ∧ res = .tup [.nil, iv 0, iv 2] ∧ outs = [] }
theorem FreeRg_at (c : List (Int × Int)) (o : Int) (h : c.length ≤ 1000000) (hv : Val c) (ho : o < 0 ∨ 2048 ≤ o) : FreeRgS.rel [dS c, iv o] [] (.tup [.nil, iv 0, iv 2]) [] := ⟨c, o, h, hv, ho, rfl, rfl, rfl, rfl⟩
theorem FreeRg_ok : Ok Try.prog 14 FreeRgS := by
  refine fn_ok FreeRgS Try.func14 rfl rfl ?_
  rintro args ins res outs ⟨c, o, hc, hv, ho, rfl, rfl, rfl, rfl⟩
  refine ⟨by simp [Try.ntmps14], fun w0 V Bo mu0 => ?_⟩
  have e0 := val_cc hv
  repeat' (first
    | (with_reducible first | refine W_seq ?_ | refine W_condT rfl ?_ | refine W_condF rfl ?_ | refine W_tf rfl (fun h => ?_) (fun h => ?_) | refine W_block ?_ | refine W_scope ?_ | refine endQ_ret ?_ | refine endQ_normal ?_)
    | ((with_reducible first | refine hK _ ?_ | refine hK _ _ ?_); clear hK K)
    | ((first | (with_reducible first | refine ops_cons (fun K hK => ?_) | refine opsd_cons (fun K hK => ?_) | refine ops_nil ?_ | refine fit_i64 (by omega) ?_ | refine fit_u8 (by omega) ?_ | refine fit_u64 (by omega) ?_ | refine fit_u32 (by omega) ?_ | refine fit_any ?_ | refine quo_nn (by omega) ?_ | refine rem_nn (by omega) ?_ | refine quo_any ?_ | refine rem_any ?_ | refine sh_in (by simp only [IntKind.bits]; omega) ?_) | ((with_reducible refine opsd_nil ?_); refine And.intro (by kernel_rfl) ?_) | with_reducible refine callV_snap ?_ | ((with_reducible refine call_go CheckS Check_ok ?_); refine ⟨(by first | exact alOk_nil _ | exact alOk_f rfl), _, _, Check_at _ hc, ?_⟩) | ((with_reducible refine call_go SplitNoS SplitNo_ok ?_); refine ⟨(by first | exact alOk_nil _ | exact alOk_f rfl), _, _, SplitNo_at _ ho, ?_⟩) | (with_reducible first | refine slice_old ?_ | refine app_grow ?_ | refine idx_map (by omega) ?_ | refine W_reg [(0, [0, 1]), (1, [0, 1, 7]), (2, [0, 1, 7, 22]), (3, [4, 5, 6]), (4, [0, 1, 9, 11]), (5, [0, 1, 9, 11, 31]), (6, [4, 5, 6]), (7, [0, 1, 9, 12, 13]), (8, [0, 1, 9, 12, 40]), (9, [4, 5, 6]), (10, [0, 9, 11, 12, 14]), (11, [0, 9, 11, 12, 14, 51]), (12, [4, 5, 6]), (13, [4, 9, 12, 14]), (14, [4, 9, 12, 14, 15]), (15, [4, 9, 12, 15]), (16, [4, 9, 12, 67]), (17, [4, 5, 6]), (18, [4, 5, 6])] ?_ | refine W_drw [(0, [0, 1]), (1, [0, 1, 7]), (2, [0, 1, 7, 22]), (3, [4, 5, 6]), (4, [0, 1, 9, 11]), (5, [0, 1, 9, 11, 31]), (6, [4, 5, 6]), (7, [0, 1, 9, 12, 13]), (8, [0, 1, 9, 12, 40]), (9, [4, 5, 6]), (10, [0, 9, 11, 12, 14]), (11, [0, 9, 11, 12, 14, 51]), (12, [4, 5, 6]), (13, [4, 9, 12, 14]), (14, [4, 9, 12, 14, 15]), (15, [4, 9, 12, 15]), (16, [4, 9, 12, 67]), (17, [4, 5, 6]), (18, [4, 5, 6])] (by kernel_rfl) ?_ | refine W_label ?_ | refine W_skip ?_ | refine W_exit ?_ | refine W_ret ?_ | refine end_at0 ?_) | (with_reducible refine And.intro (fun h => ?_) (fun h => ?_)) | (with_reducible refine And.intro (by omega) ?_)); (try simp only [go_sem, Nat.reduceAdd, Nat.reduceSub, Nat.reduceMul, Nat.reduceDiv, Nat.reduceMod, Nat.reducePow, Nat.reduceLT, Nat.reduceEqDiff, Nat.reduceBEq, Nat.reduceLeDiff, reduceIte, reduceCtorEq, Int.reduceLT, Int.reduceLE, Int.reduceEq, Int.reduceNe, Int.reduceNeg, Int.reduceAdd, Int.reduceSub, Int.reduceMul, Int.reduceToNat, Int.reducePow, Int.reduceDiv, Int.reduceMod, Nat.reduceSucc, e0, Try.ntmps14, Try.results14, FreeRgS]))
    | fail)
def FreeMsS : Spec := { rel := fun args ins res outs => ∃ (c : List (Int × Int)) (o : Int) (p : Nat), c.length ≤ 1000000 ∧ Val c ∧ 0 ≤ o ∧ o < 2048 ∧ At c (o / 8) p ∧ (∀ h : p < c.length, (c[p]).1 = o / 8 → usd (c[p]).2 (o % 8) = false) ∧ args = [dS c, iv o] ∧ ins = [] ∧ res = .tup [.nil, iv 0, iv 6] ∧ outs = [] }
theorem FreeMs_at (c : List (Int × Int)) (o : Int) (p : Nat) (h : c.length ≤ 1000000) (hv : Val c) (o0 : 0 ≤ o) (o1 : o < 2048) (ha : At c (o / 8) p) (hu : ∀ h : p < c.length, (c[p]).1 = o / 8 → usd (c[p]).2 (o % 8) = false) : FreeMsS.rel [dS c, iv o] [] (.tup [.nil, iv 0, iv 6]) [] := ⟨c, o, p, h, hv, o0, o1, ha, hu, rfl, rfl, rfl, rfl⟩
set_option maxHeartbeats 1000000 in
theorem FreeMs_ok : Ok Try.prog 14 FreeMsS := by
  refine fn_ok FreeMsS Try.func14 rfl rfl ?_
  rintro args ins res outs ⟨c, o, p, hc, hv, o0, o1, ha, hu, rfl, rfl, rfl, rfl⟩
  refine ⟨by simp [Try.ntmps14], fun w0 V Bo mu0 => ?_⟩
  have e0 := val_cc hv
  by_cases hp : ∃ h : p < c.length, (c[p]).1 = o / 8
  · obtain ⟨hlt, hx⟩ := hp
    have hf := hu hlt hx
    obtain ⟨b0, b1, b2, b3⟩ := hv.get p hlt
    have hx' : o / 8 = (c[p]).1 := hx.symm
    repeat' (first
      | (with_reducible first | refine W_seq ?_ | refine W_condT rfl ?_ | refine W_condF rfl ?_ | refine W_tf rfl (fun h => ?_) (fun h => ?_) | refine W_block ?_ | refine W_scope ?_ | refine endQ_ret ?_ | refine endQ_normal ?_)
      | ((with_reducible first | refine hK _ ?_ | refine hK _ _ ?_); clear hK K)
      | ((first | (with_reducible first | refine ops_cons (fun K hK => ?_) | refine opsd_cons (fun K hK => ?_) | refine ops_nil ?_ | refine fit_i64 (by omega) ?_ | refine fit_u8 (by omega) ?_ | refine fit_u64 (by omega) ?_ | refine fit_u32 (by omega) ?_ | refine fit_any ?_ | refine quo_nn (by omega) ?_ | refine rem_nn (by omega) ?_ | refine quo_any ?_ | refine rem_any ?_ | refine sh_in (by simp only [IntKind.bits]; omega) ?_) | ((with_reducible refine opsd_nil ?_); refine And.intro (by kernel_rfl) ?_) | with_reducible refine callV_snap ?_ | ((with_reducible refine call_go CheckS Check_ok ?_); refine ⟨(by first | exact alOk_nil _ | exact alOk_f rfl), _, _, Check_at _ hc, ?_⟩) | ((with_reducible refine call_go SplitS Split_ok ?_); refine ⟨(by first | exact alOk_nil _ | exact alOk_f rfl), _, _, Split_at _ o0 o1, ?_⟩) | ((with_reducible refine call_go findS find_ok ?_); refine ⟨(by first | exact alOk_nil _ | exact alOk_f rfl), _, _, find_at _ _ p true hc hv (by omega) (by omega) ha ⟨fun _ => ⟨hlt, hx⟩, fun _ => rfl⟩, ?_⟩) | ((with_reducible refine call_go sFreeNoS sFreeNo_ok ?_); refine ⟨(by first | exact alOk_nil _ | exact alOk_f rfl), _, _, sFreeNo_at _ _ _ b0 b1 (by omega) b3 o0 o1 hx' hf, ?_⟩) | (with_reducible first | refine slice_old ?_ | refine app_grow ?_ | refine idx_map (by omega) ?_ | refine W_reg [(0, [0, 1]), (1, [0, 1, 7]), (2, [0, 1, 7, 22]), (3, [4, 5, 6]), (4, [0, 1, 9, 11]), (5, [0, 1, 9, 11, 31]), (6, [4, 5, 6]), (7, [0, 1, 9, 12, 13]), (8, [0, 1, 9, 12, 40]), (9, [4, 5, 6]), (10, [0, 9, 11, 12, 14]), (11, [0, 9, 11, 12, 14, 51]), (12, [4, 5, 6]), (13, [4, 9, 12, 14]), (14, [4, 9, 12, 14, 15]), (15, [4, 9, 12, 15]), (16, [4, 9, 12, 67]), (17, [4, 5, 6]), (18, [4, 5, 6])] ?_ | refine W_drw [(0, [0, 1]), (1, [0, 1, 7]), (2, [0, 1, 7, 22]), (3, [4, 5, 6]), (4, [0, 1, 9, 11]), (5, [0, 1, 9, 11, 31]), (6, [4, 5, 6]), (7, [0, 1, 9, 12, 13]), (8, [0, 1, 9, 12, 40]), (9, [4, 5, 6]), (10, [0, 9, 11, 12, 14]), (11, [0, 9, 11, 12, 14, 51]), (12, [4, 5, 6]), (13, [4, 9, 12, 14]), (14, [4, 9, 12, 14, 15]), (15, [4, 9, 12, 15]), (16, [4, 9, 12, 67]), (17, [4, 5, 6]), (18, [4, 5, 6])] (by kernel_rfl) ?_ | refine W_label ?_ | refine W_skip ?_ | refine W_exit ?_ | refine W_ret ?_ | refine end_at0 ?_) | (with_reducible refine And.intro (fun h => ?_) (fun h => ?_)) | (with_reducible refine And.intro (by omega) ?_)); (try simp only [go_sem, Nat.reduceAdd, Nat.reduceSub, Nat.reduceMul, Nat.reduceDiv, Nat.reduceMod, Nat.reducePow, Nat.reduceLT, Nat.reduceEqDiff, Nat.reduceBEq, Nat.reduceLeDiff, reduceIte, reduceCtorEq, Int.reduceLT, Int.reduceLE, Int.reduceEq, Int.reduceNe, Int.reduceNeg, Int.reduceAdd, Int.reduceSub, Int.reduceMul, Int.reduceToNat, Int.reducePow, Int.reduceDiv, Int.reduceMod, Nat.reduceSucc, encDS, e0, Try.ntmps14, Try.results14, FreeMsS]))
      | fail)
  · have hiff : false = true ↔ ∃ h : p < c.length, (c[p]).1 = o / 8 := ⟨fun h => Bool.noConfusion h, fun h => absurd h hp⟩
    repeat' (first
      | (with_reducible first | refine W_seq ?_ | refine W_condT rfl ?_ | refine W_condF rfl ?_ | refine W_tf rfl (fun h => ?_) (fun h => ?_) | refine W_block ?_ | refine W_scope ?_ | refine endQ_ret ?_ | refine endQ_normal ?_)
      | ((with_reducible first | refine hK _ ?_ | refine hK _ _ ?_); clear hK K)
      | ((first | (with_reducible first | refine ops_cons (fun K hK => ?_) | refine opsd_cons (fun K hK => ?_) | refine ops_nil ?_ | refine fit_i64 (by omega) ?_ | refine fit_u8 (by omega) ?_ | refine fit_u64 (by omega) ?_ | refine fit_u32 (by omega) ?_ | refine fit_any ?_ | refine quo_nn (by omega) ?_ | refine rem_nn (by omega) ?_ | refine quo_any ?_ | refine rem_any ?_ | refine sh_in (by simp only [IntKind.bits]; omega) ?_) | ((with_reducible refine opsd_nil ?_); refine And.intro (by kernel_rfl) ?_) | with_reducible refine callV_snap ?_ | ((with_reducible refine call_go CheckS Check_ok ?_); refine ⟨(by first | exact alOk_nil _ | exact alOk_f rfl), _, _, Check_at _ hc, ?_⟩) | ((with_reducible refine call_go SplitS Split_ok ?_); refine ⟨(by first | exact alOk_nil _ | exact alOk_f rfl), _, _, Split_at _ o0 o1, ?_⟩) | ((with_reducible refine call_go findS find_ok ?_); refine ⟨(by first | exact alOk_nil _ | exact alOk_f rfl), _, _, find_at _ _ p false hc hv (by omega) (by omega) ha hiff, ?_⟩) | (with_reducible first | refine slice_old ?_ | refine app_grow ?_ | refine idx_map (by omega) ?_ | refine W_reg [(0, [0, 1]), (1, [0, 1, 7]), (2, [0, 1, 7, 22]), (3, [4, 5, 6]), (4, [0, 1, 9, 11]), (5, [0, 1, 9, 11, 31]), (6, [4, 5, 6]), (7, [0, 1, 9, 12, 13]), (8, [0, 1, 9, 12, 40]), (9, [4, 5, 6]), (10, [0, 9, 11, 12, 14]), (11, [0, 9, 11, 12, 14, 51]), (12, [4, 5, 6]), (13, [4, 9, 12, 14]), (14, [4, 9, 12, 14, 15]), (15, [4, 9, 12, 15]), (16, [4, 9, 12, 67]), (17, [4, 5, 6]), (18, [4, 5, 6])] ?_ | refine W_drw [(0, [0, 1]), (1, [0, 1, 7]), (2, [0, 1, 7, 22]), (3, [4, 5, 6]), (4, [0, 1, 9, 11]), (5, [0, 1, 9, 11, 31]), (6, [4, 5, 6]), (7, [0, 1, 9, 12, 13]), (8, [0, 1, 9, 12, 40]), (9, [4, 5, 6]), (10, [0, 9, 11, 12, 14]), (11, [0, 9, 11, 12, 14, 51]), (12, [4, 5, 6]), (13, [4, 9, 12, 14]), (14, [4, 9, 12, 14, 15]), (15, [4, 9, 12, 15]), (16, [4, 9, 12, 67]), (17, [4, 5, 6]), (18, [4, 5, 6])] (by kernel_rfl) ?_ | refine W_label ?_ | refine W_skip ?_ | refine W_exit ?_ | refine W_ret ?_ | refine end_at0 ?_) | (with_reducible refine And.intro (fun h => ?_) (fun h => ?_)) | (with_reducible refine And.intro (by omega) ?_)); (try simp only [go_sem, Nat.reduceAdd, Nat.reduceSub, Nat.reduceMul, Nat.reduceDiv, Nat.reduceMod, Nat.reducePow, Nat.reduceLT, Nat.reduceEqDiff, Nat.reduceBEq, Nat.reduceLeDiff, reduceIte, reduceCtorEq, Int.reduceLT, Int.reduceLE, Int.reduceEq, Int.reduceNe, Int.reduceNeg, Int.reduceAdd, Int.reduceSub, Int.reduceMul, Int.reduceToNat, Int.reducePow, Int.reduceDiv, Int.reduceMod, Nat.reduceSucc, encDS, e0, Try.ntmps14, Try.results14, FreeMsS]))
      | fail)

def FreeKpS : Spec := { rel := fun args ins res outs => ∃ (c : List (Int × Int)) (o : Int) (p : Nat) (h : p < c.length), c.length ≤ 1000000 ∧ Val c ∧ 0 ≤ o ∧ o < 2048 ∧ (c[p]).1 = o / 8 ∧ usd (c[p]).2 (o % 8) = true ∧ (c[p]).2 - 2 ^ (o % 8).toNat ≠ 0 ∧ args = [dS c, iv o] ∧ ins = [] ∧ res = .tup [.row 0 2 0 c.length, iv (-1), iv 0] ∧ outs = [.rows 38 2 ((c.set p ((c[p]).1, (c[p]).2 - 2 ^ (o % 8).toNat)).map encDS)] }
theorem FreeKp_at (c : List (Int × Int)) (o : Int) (p : Nat) (h : p < c.length) (hl : c.length ≤ 1000000) (hv : Val c) (o0 : 0 ≤ o) (o1 : o < 2048) (hx : (c[p]).1 = o / 8) (hu : usd (c[p]).2 (o % 8) = true) (hz : (c[p]).2 - 2 ^ (o % 8).toNat ≠ 0) :
    FreeKpS.rel [dS c, iv o] [] (.tup [.row 0 2 0 c.length, iv (-1), iv 0]) [.rows 38 2 ((c.set p ((c[p]).1, (c[p]).2 - 2 ^ (o % 8).toNat)).map encDS)] := ⟨c, o, p, h, hl, hv, o0, o1, hx, hu, hz, rfl, rfl, rfl, rfl⟩
theorem Val.at {c : List (Int × Int)} (hv : Val c) {p : Nat} (hp : p < c.length) : At c (c[p]).1 p := by
  refine ⟨by omega, fun j hj h => hv.lt h hp, fun j hj h => ?_⟩
  rcases Nat.lt_or_ge p j with h' | h'
  · exact Int.le_of_lt (hv.lt h' hj)
  · have : j = p := by omega
    subst this; exact Int.le_refl _
set_option maxHeartbeats 1000000 in
theorem FreeKp_ok : Ok Try.prog 14 FreeKpS := by
  refine fn_ok FreeKpS Try.func14 rfl rfl ?_
  rintro args ins res outs ⟨c, o, p, hlt, hc, hv, o0, o1, hx, hu, hz, rfl, rfl, rfl, rfl⟩
  refine ⟨by simp [Try.ntmps14], fun w0 V Bo mu0 => ?_⟩
  have e0 := val_cc hv
  obtain ⟨b0, b1, b2, b3⟩ := hv.get p hlt
  have hx' : o / 8 = (c[p]).1 := hx.symm
  have ha : At c (o / 8) p := by rw [hx']; exact hv.at hlt
  have hpi : (p : Int) < c.length := by omega
  have hs := set_row c p hlt ((c[p]).2 - 2 ^ (o % 8).toNat)
  have hs1 : (c.set p ((c[p]).1, (c[p]).2 - 2 ^ (o % 8).toNat)).length = c.length := by simp
  have hs2 : ((c.set p ((c[p]).1, (c[p]).2 - 2 ^ (o % 8).toNat))[p]'(by rw [hs1]; exact hlt)) = ((c[p]).1, (c[p]).2 - 2 ^ (o % 8).toNat) := by simp
  repeat' (first
    | (with_reducible first | refine W_seq ?_ | refine W_condT rfl ?_ | refine W_condF rfl ?_ | refine W_tf rfl (fun h => ?_) (fun h => ?_) | refine W_block ?_ | refine W_scope ?_ | refine endQ_ret ?_ | refine endQ_normal ?_)
    | ((with_reducible first | refine hK _ ?_ | refine hK _ _ ?_); clear hK K)
    | ((with_reducible refine idx_map2 (by omega) ?_); simp only [go_sem, Nat.reduceAdd, Nat.reduceSub, Nat.reduceMul, Nat.reduceDiv, Nat.reduceMod, Nat.reducePow, Nat.reduceLT, Nat.reduceEqDiff, Nat.reduceBEq, Nat.reduceLeDiff, reduceIte, reduceCtorEq, Int.reduceLT, Int.reduceLE, Int.reduceEq, Int.reduceNe, Int.reduceNeg, Int.reduceAdd, Int.reduceSub, Int.reduceMul, Int.reduceToNat, Int.reducePow, Int.reduceDiv, Int.reduceMod, Nat.reduceSucc, encDS, hs])
    | ((first | (with_reducible first | refine ops_cons (fun K hK => ?_) | refine opsd_cons (fun K hK => ?_) | refine ops_nil ?_ | refine fit_i64 (by omega) ?_ | refine fit_u8 (by omega) ?_ | refine fit_u64 (by omega) ?_ | refine fit_u32 (by omega) ?_ | refine fit_any ?_ | refine quo_nn (by omega) ?_ | refine rem_nn (by omega) ?_ | refine quo_any ?_ | refine rem_any ?_ | refine sh_in (by simp only [IntKind.bits]; omega) ?_) | ((with_reducible refine opsd_nil ?_); refine And.intro (by kernel_rfl) ?_) | with_reducible refine callV_snap ?_ | ((with_reducible refine call_go CheckS Check_ok ?_); refine ⟨(by first | exact alOk_nil _ | exact alOk_f rfl), _, _, Check_at _ hc, ?_⟩) | ((with_reducible refine call_go SplitS Split_ok ?_); refine ⟨(by first | exact alOk_nil _ | exact alOk_f rfl), _, _, Split_at _ o0 o1, ?_⟩) | ((with_reducible refine call_go findS find_ok ?_); refine ⟨(by first | exact alOk_nil _ | exact alOk_f rfl), _, _, find_at _ _ p true hc hv (by omega) (by omega) ha ⟨fun _ => ⟨hlt, hx⟩, fun _ => rfl⟩, ?_⟩) | ((with_reducible refine call_go sFreeS sFree_ok ?_); refine ⟨(by first | exact alOk_nil _ | exact alOk_f rfl), _, _, sFree_at _ _ _ b0 b1 (by omega) b3 o0 o1 hx' hu, ?_⟩) | ((with_reducible refine call_go CloneS Clone_ok ?_); refine ⟨(by first | exact alOk_nil _ | exact alOk_f rfl), _, _, Clone_at _ hc, ?_⟩) | (with_reducible first | refine slice_old ?_ | refine app_grow ?_ | refine idx_map (by omega) ?_ | refine W_reg [(0, [0, 1]), (1, [0, 1, 7]), (2, [0, 1, 7, 22]), (3, [4, 5, 6]), (4, [0, 1, 9, 11]), (5, [0, 1, 9, 11, 31]), (6, [4, 5, 6]), (7, [0, 1, 9, 12, 13]), (8, [0, 1, 9, 12, 40]), (9, [4, 5, 6]), (10, [0, 9, 11, 12, 14]), (11, [0, 9, 11, 12, 14, 51]), (12, [4, 5, 6]), (13, [4, 9, 12, 14]), (14, [4, 9, 12, 14, 15]), (15, [4, 9, 12, 15]), (16, [4, 9, 12, 67]), (17, [4, 5, 6]), (18, [4, 5, 6])] ?_ | refine W_drw [(0, [0, 1]), (1, [0, 1, 7]), (2, [0, 1, 7, 22]), (3, [4, 5, 6]), (4, [0, 1, 9, 11]), (5, [0, 1, 9, 11, 31]), (6, [4, 5, 6]), (7, [0, 1, 9, 12, 13]), (8, [0, 1, 9, 12, 40]), (9, [4, 5, 6]), (10, [0, 9, 11, 12, 14]), (11, [0, 9, 11, 12, 14, 51]), (12, [4, 5, 6]), (13, [4, 9, 12, 14]), (14, [4, 9, 12, 14, 15]), (15, [4, 9, 12, 15]), (16, [4, 9, 12, 67]), (17, [4, 5, 6]), (18, [4, 5, 6])] (by kernel_rfl) ?_ | refine W_label ?_ | refine W_skip ?_ | refine W_exit ?_ | refine W_ret ?_ | refine end_at0 ?_) | (with_reducible refine And.intro (fun h => ?_) (fun h => ?_)) | (with_reducible refine And.intro (by omega) ?_)); (try simp only [go_sem, Nat.reduceAdd, Nat.reduceSub, Nat.reduceMul, Nat.reduceDiv, Nat.reduceMod, Nat.reducePow, Nat.reduceLT, Nat.reduceEqDiff, Nat.reduceBEq, Nat.reduceLeDiff, reduceIte, reduceCtorEq, Int.reduceLT, Int.reduceLE, Int.reduceEq, Int.reduceNe, Int.reduceNeg, Int.reduceAdd, Int.reduceSub, Int.reduceMul, Int.reduceToNat, Int.reducePow, Int.reduceDiv, Int.reduceMod, Nat.reduceSucc, encDS, e0, hz, hpi, hs, hs1, hs2, Try.ntmps14, Try.results14, FreeKpS]))
    | fail)
  clear hs hs1 hs2
  generalize (c.set p ((c[p]).1, (c[p]).2 - 2 ^ (o % 8).toNat)) = c'
  refine end_at [1] ?_
  simp [go_sem, Try.results14, FreeKpS]
  exact flatS'

abbrev Del2S := DelS
theorem Del2_ok : Ok Try.prog 50 Del2S := Del_ok
theorem Del2_at (c : List (Int × Int)) (i n : Nat) (hn : c.length = n) (h : n ≤ 1000000) (hi : i < n) : Del2S.rel [.row 0 2 0 n, iv i, iv (i + 1)] [.rows 38 2 (c.map encDS)] (.row 0 2 0 (n - 1)) [.rows 38 2 ((c.eraseIdx i).map encDS)] := by
  subst hn; exact Del_at c i h hi

def FreeDrS : Spec := { rel := fun args ins res outs => ∃ (c : List (Int × Int)) (o : Int) (p : Nat) (h : p < c.length), c.length ≤ 1000000 ∧ Val c ∧ 0 ≤ o ∧ o < 2048 ∧ (c[p]).1 = o / 8 ∧ usd (c[p]).2 (o % 8) = true ∧ (c[p]).2 - 2 ^ (o % 8).toNat = 0 ∧ args = [dS c, iv o] ∧ ins = [] ∧ res = .tup [.row 0 2 0 (c.length - 1), iv (o / 8), iv 0] ∧ outs = [.rows 38 2 ((c.eraseIdx p).map encDS)] }
theorem FreeDr_at (c : List (Int × Int)) (o : Int) (p : Nat) (h : p < c.length) (hl : c.length ≤ 1000000) (hv : Val c) (o0 : 0 ≤ o) (o1 : o < 2048) (hx : (c[p]).1 = o / 8) (hu : usd (c[p]).2 (o % 8) = true) (hz : (c[p]).2 - 2 ^ (o % 8).toNat = 0) :
    FreeDrS.rel [dS c, iv o] [] (.tup [.row 0 2 0 (c.length - 1), iv (o / 8), iv 0]) [.rows 38 2 ((c.eraseIdx p).map encDS)] := ⟨c, o, p, h, hl, hv, o0, o1, hx, hu, hz, rfl, rfl, rfl, rfl⟩
set_option maxHeartbeats 1000000 in
theorem FreeDr_ok : Ok Try.prog 14 FreeDrS := by
  refine fn_ok FreeDrS Try.func14 rfl rfl ?_
  rintro args ins res outs ⟨c, o, p, hlt, hc, hv, o0, o1, hx, hu, hz, rfl, rfl, rfl, rfl⟩
  refine ⟨by simp [Try.ntmps14], fun w0 V Bo mu0 => ?_⟩
  have e0 := val_cc hv
  obtain ⟨b0, b1, b2, b3⟩ := hv.get p hlt
  have hx' : o / 8 = (c[p]).1 := hx.symm
  have ha : At c (o / 8) p := by rw [hx']; exact hv.at hlt
  have hpi : (p : Int) < c.length := by omega
  have hs := set_row c p hlt 0
  have hs1 : (c.set p ((c[p]).1, 0)).length = c.length := by simp
  have hs2 : ((c.set p ((c[p]).1, 0))[p]'(by rw [hs1]; exact hlt)) = ((c[p]).1, 0) := by simp
  have hs3 : (c.set p ((c[p]).1, 0)).eraseIdx p = c.eraseIdx p := by
    simp only [List.eraseIdx_eq_take_drop_succ, List.take_set_of_le (Nat.le_refl p), List.drop_set_of_lt (Nat.lt_succ_self p)]
  repeat' (first
    | (with_reducible first | refine W_seq ?_ | refine W_condT rfl ?_ | refine W_condF rfl ?_ | refine W_tf rfl (fun h => ?_) (fun h => ?_) | refine W_block ?_ | refine W_scope ?_ | refine endQ_ret ?_ | refine endQ_normal ?_)
    | ((with_reducible first | refine hK _ ?_ | refine hK _ _ ?_); clear hK K)
    | ((with_reducible refine idx_map2 (by omega) ?_); simp only [go_sem, Nat.reduceAdd, Nat.reduceSub, Nat.reduceMul, Nat.reduceDiv, Nat.reduceMod, Nat.reducePow, Nat.reduceLT, Nat.reduceEqDiff, Nat.reduceBEq, Nat.reduceLeDiff, reduceIte, reduceCtorEq, Int.reduceLT, Int.reduceLE, Int.reduceEq, Int.reduceNe, Int.reduceNeg, Int.reduceAdd, Int.reduceSub, Int.reduceMul, Int.reduceToNat, Int.reducePow, Int.reduceDiv, Int.reduceMod, Nat.reduceSucc, encDS, hs])
    | ((first | (with_reducible first | refine ops_cons (fun K hK => ?_) | refine opsd_cons (fun K hK => ?_) | refine ops_nil ?_ | refine fit_i64 (by omega) ?_ | refine fit_u8 (by omega) ?_ | refine fit_u64 (by omega) ?_ | refine fit_u32 (by omega) ?_ | refine fit_any ?_ | refine quo_nn (by omega) ?_ | refine rem_nn (by omega) ?_ | refine quo_any ?_ | refine rem_any ?_ | refine sh_in (by simp only [IntKind.bits]; omega) ?_) | ((with_reducible refine opsd_nil ?_); refine And.intro (by kernel_rfl) ?_) | ((with_reducible refine callV_lend Del2S [1] Del2_ok rfl ?_); simp only [go_sem, Nat.reduceAdd, Nat.reduceSub, Nat.reduceMul, Nat.reduceDiv, Nat.reduceMod, Nat.reducePow, Nat.reduceLT, Nat.reduceEqDiff, Nat.reduceBEq, Nat.reduceLeDiff, reduceIte, reduceCtorEq, Int.reduceLT, Int.reduceLE, Int.reduceEq, Int.reduceNe, Int.reduceNeg, Int.reduceAdd, Int.reduceSub, Int.reduceMul, Int.reduceToNat, Int.reducePow, Int.reduceDiv, Int.reduceMod, Nat.reduceSucc, encDS, e0, hz, hpi, hs, hs1, hs2, hs3, DelS]; refine ⟨(by first | exact alOk_nil _ | exact alOk_f rfl), rfl, _, _, Del2_at _ p _ hs1 hc hlt, ?_⟩) | with_reducible refine callV_snap ?_ | ((with_reducible refine call_go CheckS Check_ok ?_); refine ⟨(by first | exact alOk_nil _ | exact alOk_f rfl), _, _, Check_at _ hc, ?_⟩) | ((with_reducible refine call_go SplitS Split_ok ?_); refine ⟨(by first | exact alOk_nil _ | exact alOk_f rfl), _, _, Split_at _ o0 o1, ?_⟩) | ((with_reducible refine call_go findS find_ok ?_); refine ⟨(by first | exact alOk_nil _ | exact alOk_f rfl), _, _, find_at _ _ p true hc hv (by omega) (by omega) ha ⟨fun _ => ⟨hlt, hx⟩, fun _ => rfl⟩, ?_⟩) | ((with_reducible refine call_go sFreeS sFree_ok ?_); refine ⟨(by first | exact alOk_nil _ | exact alOk_f rfl), _, _, sFree_at _ _ _ b0 b1 (by omega) b3 o0 o1 hx' hu, ?_⟩) | ((with_reducible refine call_go CloneS Clone_ok ?_); refine ⟨(by first | exact alOk_nil _ | exact alOk_f rfl), _, _, Clone_at _ hc, ?_⟩) | (with_reducible first | refine slice_old ?_ | refine app_grow ?_ | refine idx_map (by omega) ?_ | refine W_reg [(0, [0, 1]), (1, [0, 1, 7]), (2, [0, 1, 7, 22]), (3, [4, 5, 6]), (4, [0, 1, 9, 11]), (5, [0, 1, 9, 11, 31]), (6, [4, 5, 6]), (7, [0, 1, 9, 12, 13]), (8, [0, 1, 9, 12, 40]), (9, [4, 5, 6]), (10, [0, 9, 11, 12, 14]), (11, [0, 9, 11, 12, 14, 51]), (12, [4, 5, 6]), (13, [4, 9, 12, 14]), (14, [4, 9, 12, 14, 15]), (15, [4, 9, 12, 15]), (16, [4, 9, 12, 67]), (17, [4, 5, 6]), (18, [4, 5, 6])] ?_ | refine W_drw [(0, [0, 1]), (1, [0, 1, 7]), (2, [0, 1, 7, 22]), (3, [4, 5, 6]), (4, [0, 1, 9, 11]), (5, [0, 1, 9, 11, 31]), (6, [4, 5, 6]), (7, [0, 1, 9, 12, 13]), (8, [0, 1, 9, 12, 40]), (9, [4, 5, 6]), (10, [0, 9, 11, 12, 14]), (11, [0, 9, 11, 12, 14, 51]), (12, [4, 5, 6]), (13, [4, 9, 12, 14]), (14, [4, 9, 12, 14, 15]), (15, [4, 9, 12, 15]), (16, [4, 9, 12, 67]), (17, [4, 5, 6]), (18, [4, 5, 6])] (by kernel_rfl) ?_ | refine W_label ?_ | refine W_skip ?_ | refine W_exit ?_ | refine W_ret ?_ | refine end_at0 ?_) | (with_reducible refine And.intro (fun h => ?_) (fun h => ?_)) | (with_reducible refine And.intro (by omega) ?_)); (try simp only [go_sem, Nat.reduceAdd, Nat.reduceSub, Nat.reduceMul, Nat.reduceDiv, Nat.reduceMod, Nat.reducePow, Nat.reduceLT, Nat.reduceEqDiff, Nat.reduceBEq, Nat.reduceLeDiff, reduceIte, reduceCtorEq, Int.reduceLT, Int.reduceLE, Int.reduceEq, Int.reduceNe, Int.reduceNeg, Int.reduceAdd, Int.reduceSub, Int.reduceMul, Int.reduceToNat, Int.reducePow, Int.reduceDiv, Int.reduceMod, Nat.reduceSucc, encDS, e0, hz, hpi, hs, hs1, hs2, hs3, DelS, Del2S, Try.ntmps14, Try.results14, FreeDrS]))
    | fail)
  refine end_at [1] ?_
  simp [go_sem, Try.results14, FreeDrS]
  exact flatS'
end Go.Proofs.Ytokocigmchfdfaa
