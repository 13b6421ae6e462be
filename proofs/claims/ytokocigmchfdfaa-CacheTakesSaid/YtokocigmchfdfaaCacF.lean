/- Needs, Count, Spare, the partial slabs, and tidying, by the engine. -/
import Derived.Test.YtokocigmchfdfaaCacE
namespace Go.Proofs.Ytokocigmchfdfaa
open Go.RowKit
set_option maxRecDepth 100000
set_option linter.unusedSimpArgs false
set_option linter.unusedVariables false

theorem ln_bd (u : Int) (h0 : 1 ≤ u) (h1 : u ≤ 255) : 0 ≤ ln u - 1 ∧ ln u - 1 ≤ 7 ∧ usd u (ln u - 1) = true := by
  have := of_fin (Q := fun u => 1 ≤ u → 0 ≤ ln u - 1 ∧ ln u - 1 ≤ 7 ∧ usd u (ln u - 1) = true) (by decide +kernel) u (by omega) h1
  exact this h0
theorem oc_bd (u : Int) (h0 : 0 ≤ u) (h1 : u ≤ 255) : 0 ≤ oc u ∧ oc u ≤ 8 := of_fin (Q := fun u => 0 ≤ oc u ∧ oc u ≤ 8) (by decide +kernel) u h0 h1

def NeedsS : Spec := { rel := fun args ins res outs => ∃ (c : List (Int × Int)) (b : Bool), c.length ≤ 1000000 ∧ Val c ∧ (b = true ∧ Full c ∨ b = false ∧ ∃ i, Lo c i) ∧ args = [dS c] ∧ ins = [] ∧ res = .tup [bv b, iv 0] ∧ outs = [] }
theorem Needs_at (c : List (Int × Int)) (b : Bool) (h : c.length ≤ 1000000) (hv : Val c) (hb : b = true ∧ Full c ∨ b = false ∧ ∃ i, Lo c i) : NeedsS.rel [dS c] [] (.tup [bv b, iv 0]) [] := ⟨c, b, h, hv, hb, rfl, rfl, rfl, rfl⟩
theorem Needs_ok : Ok Try.prog 25 NeedsS := by
  refine fn_ok NeedsS Try.func25 rfl rfl ?_
  rintro args ins res outs ⟨c, b, hc, hv, hb, rfl, rfl, rfl, rfl⟩
  refine ⟨by simp [Try.ntmps25], fun w0 V Bo mu0 => ?_⟩
  have e0 := val_cc hv
  rcases hb with ⟨rfl, hf⟩ | ⟨rfl, i, hlo⟩
  · skip
    repeat' (first
      | (with_reducible first | refine W_seq ?_ | refine W_condT rfl ?_ | refine W_condF rfl ?_ | refine W_tf rfl (fun h => ?_) (fun h => ?_) | refine W_block ?_ | refine W_scope ?_ | refine endQ_ret ?_ | refine endQ_normal ?_)
      | ((with_reducible first | refine hK _ ?_ | refine hK _ _ ?_); clear hK K)
      | ((first | (with_reducible first | refine ops_cons (fun K hK => ?_) | refine opsd_cons (fun K hK => ?_) | refine ops_nil ?_ | refine fit_i64 (by omega) ?_ | refine fit_u8 (by omega) ?_ | refine fit_u64 (by omega) ?_ | refine fit_u32 (by omega) ?_ | refine fit_any ?_ | refine quo_nn (by omega) ?_ | refine rem_nn (by omega) ?_ | refine quo_any ?_ | refine rem_any ?_ | refine sh_in (by simp only [IntKind.bits]; omega) ?_) | ((with_reducible refine opsd_nil ?_); refine And.intro (by kernel_rfl) ?_) | with_reducible refine callV_snap ?_ | ((with_reducible refine call_go CheckS Check_ok ?_); refine ⟨(by first | exact alOk_nil _ | exact alOk_f rfl), _, _, Check_at _ hc, ?_⟩) | ((with_reducible refine call_go FirstNoS FirstNo_ok ?_); refine ⟨(by first | exact alOk_nil _ | exact alOk_f rfl), _, _, FirstNo_at _ hc hv hf, ?_⟩) | (with_reducible first | refine slice_old ?_ | refine app_grow ?_ | refine idx_map (by omega) ?_ | refine W_reg [(0, [0]), (1, [0, 4]), (2, [0, 4, 14]), (3, [2, 3]), (4, [6, 7]), (5, [6, 7, 22]), (6, [2, 3]), (7, [2, 3])] ?_ | refine W_drw [(0, [0]), (1, [0, 4]), (2, [0, 4, 14]), (3, [2, 3]), (4, [6, 7]), (5, [6, 7, 22]), (6, [2, 3]), (7, [2, 3])] (by kernel_rfl) ?_ | refine W_label ?_ | refine W_skip ?_ | refine W_exit ?_ | refine W_ret ?_ | refine end_at0 ?_) | (with_reducible refine And.intro (fun h => ?_) (fun h => ?_)) | (with_reducible refine And.intro (by omega) ?_)); (try simp only [go_sem, Nat.reduceAdd, Nat.reduceSub, Nat.reduceMul, Nat.reduceDiv, Nat.reduceMod, Nat.reducePow, Nat.reduceLT, Nat.reduceEqDiff, Nat.reduceBEq, Nat.reduceLeDiff, reduceIte, reduceCtorEq, Int.reduceLT, Int.reduceLE, Int.reduceEq, Int.reduceNe, Int.reduceNeg, Int.reduceAdd, Int.reduceSub, Int.reduceMul, Int.reduceToNat, Int.reducePow, Int.reduceDiv, Int.reduceMod, Nat.reduceSucc, e0, Try.ntmps25, Try.results25, NeedsS]))
      | fail)
  · obtain ⟨hlt, hn, hall⟩ := hlo
    have g3 : ¬ (i : Int) < 0 := by omega
    repeat' (first
      | (with_reducible first | refine W_seq ?_ | refine W_condT rfl ?_ | refine W_condF rfl ?_ | refine W_tf rfl (fun h => ?_) (fun h => ?_) | refine W_block ?_ | refine W_scope ?_ | refine endQ_ret ?_ | refine endQ_normal ?_)
      | ((with_reducible first | refine hK _ ?_ | refine hK _ _ ?_); clear hK K)
      | ((first | (with_reducible first | refine ops_cons (fun K hK => ?_) | refine opsd_cons (fun K hK => ?_) | refine ops_nil ?_ | refine fit_i64 (by omega) ?_ | refine fit_u8 (by omega) ?_ | refine fit_u64 (by omega) ?_ | refine fit_u32 (by omega) ?_ | refine fit_any ?_ | refine quo_nn (by omega) ?_ | refine rem_nn (by omega) ?_ | refine quo_any ?_ | refine rem_any ?_ | refine sh_in (by simp only [IntKind.bits]; omega) ?_) | ((with_reducible refine opsd_nil ?_); refine And.intro (by kernel_rfl) ?_) | with_reducible refine callV_snap ?_ | ((with_reducible refine call_go CheckS Check_ok ?_); refine ⟨(by first | exact alOk_nil _ | exact alOk_f rfl), _, _, Check_at _ hc, ?_⟩) | ((with_reducible refine call_go FirstS First_ok ?_); refine ⟨(by first | exact alOk_nil _ | exact alOk_f rfl), _, _, First_at _ i hc hv ⟨hlt, hn⟩ hall, ?_⟩) | (with_reducible first | refine slice_old ?_ | refine app_grow ?_ | refine idx_map (by omega) ?_ | refine W_reg [(0, [0]), (1, [0, 4]), (2, [0, 4, 14]), (3, [2, 3]), (4, [6, 7]), (5, [6, 7, 22]), (6, [2, 3]), (7, [2, 3])] ?_ | refine W_drw [(0, [0]), (1, [0, 4]), (2, [0, 4, 14]), (3, [2, 3]), (4, [6, 7]), (5, [6, 7, 22]), (6, [2, 3]), (7, [2, 3])] (by kernel_rfl) ?_ | refine W_label ?_ | refine W_skip ?_ | refine W_exit ?_ | refine W_ret ?_ | refine end_at0 ?_) | (with_reducible refine And.intro (fun h => ?_) (fun h => ?_)) | (with_reducible refine And.intro (by omega) ?_)); (try simp only [go_sem, Nat.reduceAdd, Nat.reduceSub, Nat.reduceMul, Nat.reduceDiv, Nat.reduceMod, Nat.reducePow, Nat.reduceLT, Nat.reduceEqDiff, Nat.reduceBEq, Nat.reduceLeDiff, reduceIte, reduceCtorEq, Int.reduceLT, Int.reduceLE, Int.reduceEq, Int.reduceNe, Int.reduceNeg, Int.reduceAdd, Int.reduceSub, Int.reduceMul, Int.reduceToNat, Int.reducePow, Int.reduceDiv, Int.reduceMod, Nat.reduceSucc, e0, g3, Try.ntmps25, Try.results25, NeedsS]))
      | fail)

/-- how many objects there are -/
def cnt (c : List (Int × Int)) : Int := (c.map fun s => oc s.2).sum
theorem cnt_snoc (c : List (Int × Int)) (s : Int × Int) : cnt (c ++ [s]) = cnt c + oc s.2 := by simp [cnt]
theorem cnt_take {c : List (Int × Int)} {k : Nat} (h : k < c.length) : cnt (c.take (k + 1)) = cnt (c.take k) + oc (c[k]).2 := by
  rw [List.take_succ_eq_append_getElem h, cnt_snoc]
theorem cnt_bd : ∀ (c : List (Int × Int)), (∀ s ∈ c, 0 ≤ s.2 ∧ s.2 ≤ 255) → 0 ≤ cnt c ∧ cnt c ≤ 8 * c.length
  | [], _ => by simp [cnt]
  | s :: l, h => by
    have h1 := cnt_bd l (fun x hx => h x (by simp [hx]))
    have h2 := h s (by simp)
    have h3 := oc_bd s.2 h2.1 h2.2
    have e : cnt (s :: l) = oc s.2 + cnt l := by simp [cnt]
    rw [e, List.length_cons]; omega
theorem Val.u {c : List (Int × Int)} (hv : Val c) : ∀ s ∈ c, 0 ≤ s.2 ∧ s.2 ≤ 255 := fun s hs => by have := hv.bd s hs; omega

def CountS : Spec := { rel := fun args ins res outs => ∃ (c : List (Int × Int)), c.length ≤ 1000000 ∧ Val c ∧ args = [dS c] ∧ ins = [] ∧ res = .tup [iv (cnt c), iv c.length, iv 0] ∧ outs = [] }
theorem Count_at (c : List (Int × Int)) (h : c.length ≤ 1000000) (hv : Val c) : CountS.rel [dS c] [] (.tup [iv (cnt c), iv c.length, iv 0]) [] := ⟨c, h, hv, rfl, rfl, rfl, rfl⟩
set_option maxHeartbeats 1000000 in
theorem Count_ok : Ok Try.prog 27 CountS := by
  refine fn_ok CountS Try.func27 rfl rfl ?_
  rintro args ins res outs ⟨l, hl, hv, rfl, rfl, rfl, rfl⟩
  refine ⟨by simp [Try.ntmps27], fun w0 V Bo mu0 => ?_⟩
  have e0 := val_cc hv
  repeat' (first
    | (with_reducible first | refine W_seq ?_ | refine W_condT rfl ?_ | refine W_condF rfl ?_ | refine W_tf rfl (fun h => ?_) (fun h => ?_) | refine W_block ?_ | refine W_scope ?_ | refine endQ_ret ?_ | refine endQ_normal ?_)
    | ((with_reducible first | refine hK _ ?_ | refine hK _ _ ?_); clear hK K)
    | ((first | (with_reducible first | refine ops_cons (fun K hK => ?_) | refine opsd_cons (fun K hK => ?_) | refine ops_nil ?_ | refine fit_i64 (by omega) ?_ | refine fit_u8 (by omega) ?_ | refine fit_u64 (by omega) ?_ | refine fit_u32 (by omega) ?_ | refine fit_any ?_ | refine quo_nn (by omega) ?_ | refine rem_nn (by omega) ?_ | refine quo_any ?_ | refine rem_any ?_ | refine sh_in (by simp only [IntKind.bits]; omega) ?_) | ((with_reducible refine opsd_nil ?_); refine And.intro (by kernel_rfl) ?_) | with_reducible refine callV_snap ?_ | ((with_reducible refine call_go CheckS Check_ok ?_); refine ⟨(by first | exact alOk_nil _ | exact alOk_f rfl), _, _, Check_at _ hl, ?_⟩) | (with_reducible first | refine slice_old ?_ | refine app_grow ?_ | refine idx_map (by omega) ?_ | refine W_reg [(0, [0, 2]), (1, [0, 2, 5]), (2, [0, 2, 5, 15]), (3, [2, 3, 4]), (4, [0, 2, 17, 18, 19]), (5, [0, 2, 17, 18, 19, 20]), (6, [0, 2, 8, 17, 18, 19]), (7, [0, 2, 17, 18, 19]), (8, [0, 2, 17, 18, 19]), (9, [2, 3, 4])] ?_ | refine W_drw [(0, [0, 2]), (1, [0, 2, 5]), (2, [0, 2, 5, 15]), (3, [2, 3, 4]), (4, [0, 2, 17, 18, 19]), (5, [0, 2, 17, 18, 19, 20]), (6, [0, 2, 8, 17, 18, 19]), (7, [0, 2, 17, 18, 19]), (8, [0, 2, 17, 18, 19]), (9, [2, 3, 4])] (by kernel_rfl) ?_ | refine W_label ?_ | refine W_skip ?_ | refine W_exit ?_ | refine W_ret ?_ | refine end_at0 ?_) | (with_reducible refine And.intro (fun h => ?_) (fun h => ?_)) | (with_reducible refine And.intro (by omega) ?_)); (try simp only [go_sem, Nat.reduceAdd, Nat.reduceSub, Nat.reduceMul, Nat.reduceDiv, Nat.reduceMod, Nat.reducePow, Nat.reduceLT, Nat.reduceEqDiff, Nat.reduceBEq, Nat.reduceLeDiff, reduceIte, reduceCtorEq, Int.reduceLT, Int.reduceLE, Int.reduceEq, Int.reduceNe, Int.reduceNeg, Int.reduceAdd, Int.reduceSub, Int.reduceMul, Int.reduceToNat, Int.reducePow, Int.reduceDiv, Int.reduceMod, Nat.reduceSucc, e0, Try.ntmps27, Try.results27, CountS]))
    | fail)
  refine W_loop (fun k : Nat => ⟨[(0, dS l), (2, iv (cnt (l.take k))), (17, dS l), (18, iv l.length), (19, iv k)], []⟩) (fun k => k ≤ l.length) (fun k => l.length - k) 0 (Nat.zero_le _) [] ?_ ?_
  · simp [go_sem, cnt]
  intro k hk
  by_cases hlt : k < l.length
  · have hki : (k : Int) < l.length := by omega
    obtain ⟨b0, b1, b2, b3⟩ := hv.get k hlt
    have ht := cnt_take hlt
    have hb := cnt_bd (l.take k) (fun s hs => hv.u s (List.mem_of_mem_take hs))
    have hb2 := oc_bd (l[k]).2 (by omega) b3
    have hlen : (l.take k).length ≤ 1000000 := by simp; omega
    repeat' (first
      | (with_reducible first | refine W_seq ?_ | refine W_condT rfl ?_ | refine W_condF rfl ?_ | refine W_tf rfl (fun h => ?_) (fun h => ?_) | refine W_block ?_ | refine W_scope ?_ | refine endQ_ret ?_ | refine endQ_normal ?_)
      | ((with_reducible first | refine hK _ ?_ | refine hK _ _ ?_); clear hK K)
      | ((first | (with_reducible first | refine ops_cons (fun K hK => ?_) | refine opsd_cons (fun K hK => ?_) | refine ops_nil ?_ | refine fit_i64 (by omega) ?_ | refine fit_u8 (by omega) ?_ | refine fit_u64 (by omega) ?_ | refine fit_u32 (by omega) ?_ | refine fit_any ?_ | refine quo_nn (by omega) ?_ | refine rem_nn (by omega) ?_ | refine quo_any ?_ | refine rem_any ?_ | refine sh_in (by simp only [IntKind.bits]; omega) ?_) | ((with_reducible refine opsd_nil ?_); refine And.intro (by kernel_rfl) ?_) | with_reducible refine callV_snap ?_ | ((with_reducible refine call_go oc8S oc8_ok ?_); refine ⟨(by first | exact alOk_nil _ | exact alOk_f rfl), _, _, oc8_at _ (by omega) b3, ?_⟩) | (with_reducible first | refine slice_old ?_ | refine app_grow ?_ | refine idx_map (by omega) ?_ | refine W_reg [(0, [0, 2]), (1, [0, 2, 5]), (2, [0, 2, 5, 15]), (3, [2, 3, 4]), (4, [0, 2, 17, 18, 19]), (5, [0, 2, 17, 18, 19, 20]), (6, [0, 2, 8, 17, 18, 19]), (7, [0, 2, 17, 18, 19]), (8, [0, 2, 17, 18, 19]), (9, [2, 3, 4])] ?_ | refine W_drw [(0, [0, 2]), (1, [0, 2, 5]), (2, [0, 2, 5, 15]), (3, [2, 3, 4]), (4, [0, 2, 17, 18, 19]), (5, [0, 2, 17, 18, 19, 20]), (6, [0, 2, 8, 17, 18, 19]), (7, [0, 2, 17, 18, 19]), (8, [0, 2, 17, 18, 19]), (9, [2, 3, 4])] (by kernel_rfl) ?_ | refine W_label ?_ | refine W_skip ?_ | refine W_exit ?_ | refine W_ret ?_ | refine end_at0 ?_) | (with_reducible refine And.intro (fun h => ?_) (fun h => ?_)) | (with_reducible refine And.intro (by omega) ?_)); (try simp only [go_sem, Nat.reduceAdd, Nat.reduceSub, Nat.reduceMul, Nat.reduceDiv, Nat.reduceMod, Nat.reducePow, Nat.reduceLT, Nat.reduceEqDiff, Nat.reduceBEq, Nat.reduceLeDiff, reduceIte, reduceCtorEq, Int.reduceLT, Int.reduceLE, Int.reduceEq, Int.reduceNe, Int.reduceNeg, Int.reduceAdd, Int.reduceSub, Int.reduceMul, Int.reduceToNat, Int.reducePow, Int.reduceDiv, Int.reduceMod, Nat.reduceSucc, encDS, hki, Try.ntmps27, Try.results27, CountS]))
      | fail)
    refine ⟨k + 1, [], by omega, by omega, ?_⟩
    simp [go_sem, ht]
  · have hki : ¬ (k : Int) < l.length := by omega
    have e : l.take k = l := List.take_of_length_le (by omega)
    repeat' (first
      | (with_reducible first | refine W_seq ?_ | refine W_condT rfl ?_ | refine W_condF rfl ?_ | refine W_tf rfl (fun h => ?_) (fun h => ?_) | refine W_block ?_ | refine W_scope ?_ | refine endQ_ret ?_ | refine endQ_normal ?_)
      | ((with_reducible first | refine hK _ ?_ | refine hK _ _ ?_); clear hK K)
      | ((first | (with_reducible first | refine ops_cons (fun K hK => ?_) | refine opsd_cons (fun K hK => ?_) | refine ops_nil ?_ | refine fit_i64 (by omega) ?_ | refine fit_u8 (by omega) ?_ | refine fit_u64 (by omega) ?_ | refine fit_u32 (by omega) ?_ | refine fit_any ?_ | refine quo_nn (by omega) ?_ | refine rem_nn (by omega) ?_ | refine quo_any ?_ | refine rem_any ?_ | refine sh_in (by simp only [IntKind.bits]; omega) ?_) | ((with_reducible refine opsd_nil ?_); refine And.intro (by kernel_rfl) ?_) | with_reducible refine callV_snap ?_ | (with_reducible first | refine slice_old ?_ | refine app_grow ?_ | refine idx_map (by omega) ?_ | refine W_reg [(0, [0, 2]), (1, [0, 2, 5]), (2, [0, 2, 5, 15]), (3, [2, 3, 4]), (4, [0, 2, 17, 18, 19]), (5, [0, 2, 17, 18, 19, 20]), (6, [0, 2, 8, 17, 18, 19]), (7, [0, 2, 17, 18, 19]), (8, [0, 2, 17, 18, 19]), (9, [2, 3, 4])] ?_ | refine W_drw [(0, [0, 2]), (1, [0, 2, 5]), (2, [0, 2, 5, 15]), (3, [2, 3, 4]), (4, [0, 2, 17, 18, 19]), (5, [0, 2, 17, 18, 19, 20]), (6, [0, 2, 8, 17, 18, 19]), (7, [0, 2, 17, 18, 19]), (8, [0, 2, 17, 18, 19]), (9, [2, 3, 4])] (by kernel_rfl) ?_ | refine W_label ?_ | refine W_skip ?_ | refine W_exit ?_ | refine W_ret ?_ | refine end_at0 ?_) | (with_reducible refine And.intro (fun h => ?_) (fun h => ?_)) | (with_reducible refine And.intro (by omega) ?_)); (try simp only [go_sem, Nat.reduceAdd, Nat.reduceSub, Nat.reduceMul, Nat.reduceDiv, Nat.reduceMod, Nat.reducePow, Nat.reduceLT, Nat.reduceEqDiff, Nat.reduceBEq, Nat.reduceLeDiff, reduceIte, reduceCtorEq, Int.reduceLT, Int.reduceLE, Int.reduceEq, Int.reduceNe, Int.reduceNeg, Int.reduceAdd, Int.reduceSub, Int.reduceMul, Int.reduceToNat, Int.reducePow, Int.reduceDiv, Int.reduceMod, Nat.reduceSucc, hki, e, Try.ntmps27, Try.results27, CountS]))
      | fail)

def spr (c : List (Int × Int)) : Int := c.length - (cnt c + 7) / 8
def SpareS : Spec := { rel := fun args ins res outs => ∃ (c : List (Int × Int)), c.length ≤ 1000000 ∧ Val c ∧ args = [dS c] ∧ ins = [] ∧ res = .tup [iv (spr c), iv 0] ∧ outs = [] }
theorem Spare_at (c : List (Int × Int)) (h : c.length ≤ 1000000) (hv : Val c) : SpareS.rel [dS c] [] (.tup [iv (spr c), iv 0]) [] := ⟨c, h, hv, rfl, rfl, rfl, rfl⟩
theorem Spare_ok : Ok Try.prog 26 SpareS := by
  refine fn_ok SpareS Try.func26 rfl rfl ?_
  rintro args ins res outs ⟨c, hc, hv, rfl, rfl, rfl, rfl⟩
  refine ⟨by simp [Try.ntmps26], fun w0 V Bo mu0 => ?_⟩
  have hb := cnt_bd c hv.u
  have e : spr c = c.length - (cnt c + 7) / 8 := rfl
  have e7 : cnt c + 8 - 1 = cnt c + 7 := by omega
  repeat' (first
    | (with_reducible first | refine W_seq ?_ | refine W_condT rfl ?_ | refine W_condF rfl ?_ | refine W_tf rfl (fun h => ?_) (fun h => ?_) | refine W_block ?_ | refine W_scope ?_ | refine endQ_ret ?_ | refine endQ_normal ?_)
    | ((with_reducible first | refine hK _ ?_ | refine hK _ _ ?_); clear hK K)
    | ((first | (with_reducible first | refine ops_cons (fun K hK => ?_) | refine opsd_cons (fun K hK => ?_) | refine ops_nil ?_ | refine fit_i64 (by omega) ?_ | refine fit_u8 (by omega) ?_ | refine fit_u64 (by omega) ?_ | refine fit_u32 (by omega) ?_ | refine fit_any ?_ | refine quo_nn (by omega) ?_ | refine rem_nn (by omega) ?_ | refine quo_any ?_ | refine rem_any ?_ | refine sh_in (by simp only [IntKind.bits]; omega) ?_) | ((with_reducible refine opsd_nil ?_); refine And.intro (by kernel_rfl) ?_) | with_reducible refine callV_snap ?_ | ((with_reducible refine call_go CountS Count_ok ?_); refine ⟨(by first | exact alOk_nil _ | exact alOk_f rfl), _, _, Count_at _ hc hv, ?_⟩) | (with_reducible first | refine slice_old ?_ | refine app_grow ?_ | refine idx_map (by omega) ?_ | refine W_reg [(0, [0]), (1, [4, 5, 6]), (2, [4, 5, 6, 14]), (3, [2, 3]), (4, [2, 3])] ?_ | refine W_drw [(0, [0]), (1, [4, 5, 6]), (2, [4, 5, 6, 14]), (3, [2, 3]), (4, [2, 3])] (by kernel_rfl) ?_ | refine W_label ?_ | refine W_skip ?_ | refine W_exit ?_ | refine W_ret ?_ | refine end_at0 ?_) | (with_reducible refine And.intro (fun h => ?_) (fun h => ?_)) | (with_reducible refine And.intro (by omega) ?_)); (try simp only [go_sem, Nat.reduceAdd, Nat.reduceSub, Nat.reduceMul, Nat.reduceDiv, Nat.reduceMod, Nat.reducePow, Nat.reduceLT, Nat.reduceEqDiff, Nat.reduceBEq, Nat.reduceLeDiff, reduceIte, reduceCtorEq, Int.reduceLT, Int.reduceLE, Int.reduceEq, Int.reduceNe, Int.reduceNeg, Int.reduceAdd, Int.reduceSub, Int.reduceMul, Int.reduceToNat, Int.reducePow, Int.reduceDiv, Int.reduceMod, Nat.reduceSucc, e, e7, Try.ntmps26, Try.results26, SpareS]))
    | fail)
end Go.Proofs.Ytokocigmchfdfaa
