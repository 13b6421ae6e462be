/- The search by frames and the copy, by the engine. -/
import Derived.Test.YtokocigmchfdfaaCacB
namespace Go.Proofs.Ytokocigmchfdfaa
open Go.RowKit
set_option maxRecDepth 100000
set_option linter.unusedSimpArgs false
set_option linter.unusedVariables false

theorem flatS' {l : List (Int × Int)} : ∀ (r : List D) (x y : Int), (x, y) ∈ l → encDS (x, y) = r → ∀ z ∈ r, (match z with | D.sl rows => rows = [] | _ => True) := by
  rintro r x y _ rfl z hz
  simp only [encDS, List.mem_cons, List.not_mem_nil, or_false] at hz
  rcases hz with rfl | rfl <;> trivial

def cmpS : Spec := { rel := fun args ins res outs => ∃ f u x : Int, 0 ≤ f ∧ f < 256 ∧ 0 ≤ x ∧ x < 256 ∧ args = [sv f u, iv x] ∧ ins = [] ∧ res = iv (f - x) ∧ outs = [] }
theorem cmp_at (f u x : Int) (f0 : 0 ≤ f) (f1 : f < 256) (x0 : 0 ≤ x) (x1 : x < 256) : cmpS.rel [sv f u, iv x] [] (iv (f - x)) [] := ⟨f, u, x, f0, f1, x0, x1, rfl, rfl, rfl, rfl⟩
theorem cmp_ok : Ok Try.prog 63 cmpS := by
  refine fn_ok cmpS Try.func63 rfl rfl ?_
  rintro args ins res outs ⟨f, u, x, f0, f1, x0, x1, rfl, rfl, rfl, rfl⟩
  refine ⟨by simp [Try.ntmps63], fun w0 V Bo mu0 => ?_⟩
  repeat' (first
    | (with_reducible first | refine W_seq ?_ | refine W_condT rfl ?_ | refine W_condF rfl ?_ | refine W_tf rfl (fun h => ?_) (fun h => ?_) | refine W_block ?_ | refine W_scope ?_ | refine endQ_ret ?_ | refine endQ_normal ?_)
    | ((with_reducible first | refine hK _ ?_ | refine hK _ _ ?_); clear hK K)
    | ((first | (with_reducible first | refine ops_cons (fun K hK => ?_) | refine opsd_cons (fun K hK => ?_) | refine ops_nil ?_ | refine fit_i64 (by omega) ?_ | refine fit_u8 (by omega) ?_ | refine fit_u64 (by omega) ?_ | refine fit_u32 (by omega) ?_ | refine fit_any ?_ | refine quo_nn (by omega) ?_ | refine rem_nn (by omega) ?_ | refine quo_any ?_ | refine rem_any ?_ | refine sh_in (by simp only [IntKind.bits]; omega) ?_) | ((with_reducible refine opsd_nil ?_); refine And.intro (by kernel_rfl) ?_) | with_reducible refine callV_snap ?_ | (with_reducible first | refine slice_old ?_ | refine app_grow ?_ | refine idx_map (by omega) ?_ | refine W_reg [(0, [1, 2]), (1, [4])] ?_ | refine W_drw [(0, [1, 2]), (1, [4])] (by kernel_rfl) ?_ | refine W_label ?_ | refine W_skip ?_ | refine W_exit ?_ | refine W_ret ?_ | refine end_at0 ?_) | (with_reducible refine And.intro (fun h => ?_) (fun h => ?_)) | (with_reducible refine And.intro (by omega) ?_)); (try simp only [go_sem, Nat.reduceAdd, Nat.reduceSub, Nat.reduceMul, Nat.reduceDiv, Nat.reduceMod, Nat.reducePow, Nat.reduceLT, Nat.reduceEqDiff, Nat.reduceBEq, Nat.reduceLeDiff, reduceIte, reduceCtorEq, Int.reduceLT, Int.reduceLE, Int.reduceEq, Int.reduceNe, Int.reduceNeg, Int.reduceAdd, Int.reduceSub, Int.reduceMul, Int.reduceToNat, Int.reducePow, Int.reduceDiv, Int.reduceMod, Nat.reduceSucc, Try.ntmps63, Try.results63, cmpS]))
    | fail)

/-- where x stands among the frames -/
def At (c : List (Int × Int)) (x : Int) (p : Nat) : Prop := p ≤ c.length ∧ (∀ j (h : j < c.length), j < p → (c[j]).1 < x) ∧ (∀ j (h : j < c.length), p ≤ j → x ≤ (c[j]).1)
def bsS : Spec := { rel := fun args ins res outs => ∃ (c : List (Int × Int)) (x : Int) (p : Nat) (b : Bool), c.length ≤ 1000000 ∧ Val c ∧ 0 ≤ x ∧ x < 256 ∧ At c x p ∧ (b = true ↔ ∃ h : p < c.length, (c[p]).1 = x) ∧ args = [dS c, iv x, .fn 63 []] ∧ ins = [] ∧ res = .tup [iv p, bv b] ∧ outs = [] }
theorem bs_at (c : List (Int × Int)) (x : Int) (p : Nat) (b : Bool) (h : c.length ≤ 1000000) (hv : Val c) (x0 : 0 ≤ x) (x1 : x < 256) (ha : At c x p) (hb : b = true ↔ ∃ h : p < c.length, (c[p]).1 = x) : bsS.rel [dS c, iv x, .fn 63 []] [] (.tup [iv p, bv b]) [] := ⟨c, x, p, b, h, hv, x0, x1, ha, hb, rfl, rfl, rfl, rfl⟩
set_option maxHeartbeats 2000000 in
theorem bs_ok : Ok Try.prog 62 bsS := by
  refine fn_ok bsS Try.func62 rfl rfl ?_
  rintro args ins res outs ⟨l, x, p, b, hl, hv, x0, x1, ⟨hp, hlo, hhi⟩, hb, rfl, rfl, rfl, rfl⟩
  refine ⟨by simp [Try.ntmps62], fun w0 V Bo mu0 => ?_⟩
  repeat' (first
    | (with_reducible first | refine W_seq ?_ | refine W_condT rfl ?_ | refine W_condF rfl ?_ | refine W_tf rfl (fun h => ?_) (fun h => ?_) | refine W_block ?_ | refine W_scope ?_ | refine endQ_ret ?_ | refine endQ_normal ?_)
    | ((with_reducible first | refine hK _ ?_ | refine hK _ _ ?_); clear hK K)
    | ((first | (with_reducible first | refine ops_cons (fun K hK => ?_) | refine opsd_cons (fun K hK => ?_) | refine ops_nil ?_ | refine fit_i64 (by omega) ?_ | refine fit_u8 (by omega) ?_ | refine fit_u64 (by omega) ?_ | refine fit_u32 (by omega) ?_ | refine fit_any ?_ | refine quo_nn (by omega) ?_ | refine rem_nn (by omega) ?_ | refine quo_any ?_ | refine rem_any ?_ | refine sh_in (by simp only [IntKind.bits]; omega) ?_) | ((with_reducible refine opsd_nil ?_); refine And.intro (by kernel_rfl) ?_) | with_reducible refine callV_snap ?_ | (with_reducible first | refine slice_old ?_ | refine app_grow ?_ | refine idx_map (by omega) ?_ | refine W_reg [(0, [0, 1, 2]), (1, [0, 1, 2, 8]), (2, [0, 1, 2, 8, 9, 10]), (3, [0, 1, 2, 8, 9, 10, 17]), (4, [0, 1, 2, 8, 9, 10, 11]), (5, [0, 1, 2, 8, 9, 10, 11, 31]), (6, [0, 1, 2, 8, 9, 10]), (7, [0, 1, 2, 8, 9, 10]), (8, [6, 7])] ?_ | refine W_drw [(0, [0, 1, 2]), (1, [0, 1, 2, 8]), (2, [0, 1, 2, 8, 9, 10]), (3, [0, 1, 2, 8, 9, 10, 17]), (4, [0, 1, 2, 8, 9, 10, 11]), (5, [0, 1, 2, 8, 9, 10, 11, 31]), (6, [0, 1, 2, 8, 9, 10]), (7, [0, 1, 2, 8, 9, 10]), (8, [6, 7])] (by kernel_rfl) ?_ | refine W_label ?_ | refine W_skip ?_ | refine W_exit ?_ | refine W_ret ?_ | refine end_at0 ?_) | (with_reducible refine And.intro (fun h => ?_) (fun h => ?_)) | (with_reducible refine And.intro (by omega) ?_)); (try simp only [go_sem, Nat.reduceAdd, Nat.reduceSub, Nat.reduceMul, Nat.reduceDiv, Nat.reduceMod, Nat.reducePow, Nat.reduceLT, Nat.reduceEqDiff, Nat.reduceBEq, Nat.reduceLeDiff, reduceIte, reduceCtorEq, Int.reduceLT, Int.reduceLE, Int.reduceEq, Int.reduceNe, Int.reduceNeg, Int.reduceAdd, Int.reduceSub, Int.reduceMul, Int.reduceToNat, Int.reducePow, Int.reduceDiv, Int.reduceMod, Nat.reduceSucc, Try.ntmps62, Try.results62, bsS]))
    | fail)
  refine W_loop (fun q : Nat × Nat => ⟨[(0, dS l), (1, iv x), (2, .fn 63 []), (8, iv l.length), (9, iv q.1), (10, iv q.2)], []⟩) (fun q => q.1 ≤ p ∧ p ≤ q.2 ∧ q.2 ≤ l.length) (fun q => q.2 - q.1) (0, l.length) ⟨Nat.zero_le _, hp, Nat.le_refl _⟩ [] ?_ ?_
  · simp [go_sem]
  rintro ⟨i, j⟩ ⟨h1, h2, h3⟩
  dsimp only at h1 h2 h3
  by_cases hij : i < j
  · have hij' : (i : Int) < j := by omega
    have hh : ((i : Int) + j) / 2 = (((i + j) / 2 : Nat) : Int) := by omega
    have hlt : (i + j) / 2 < l.length := by omega
    obtain ⟨b0, b1, _, _⟩ := hv.get _ hlt
    generalize hm : (i + j) / 2 = m at *
    by_cases hc : (l[m]).1 < x
    · have hc' : (l[m]).1 - x < 0 := by omega
      repeat' (first
        | (with_reducible first | refine W_seq ?_ | refine W_condT rfl ?_ | refine W_condF rfl ?_ | refine W_tf rfl (fun h => ?_) (fun h => ?_) | refine W_block ?_ | refine W_scope ?_ | refine endQ_ret ?_ | refine endQ_normal ?_)
        | ((with_reducible first | refine hK _ ?_ | refine hK _ _ ?_); clear hK K)
        | ((first | (with_reducible first | refine ops_cons (fun K hK => ?_) | refine opsd_cons (fun K hK => ?_) | refine ops_nil ?_ | refine fit_i64 (by omega) ?_ | refine fit_u8 (by omega) ?_ | refine fit_u64 (by omega) ?_ | refine fit_u32 (by omega) ?_ | refine fit_any ?_ | refine quo_nn (by omega) ?_ | refine rem_nn (by omega) ?_ | refine quo_any ?_ | refine rem_any ?_ | refine sh_in (by simp only [IntKind.bits]; omega) ?_) | ((with_reducible refine opsd_nil ?_); refine And.intro (by kernel_rfl) ?_) | with_reducible refine callV_snap ?_ | ((with_reducible refine call_go cmpS cmp_ok ?_); refine ⟨(by first | exact alOk_nil _ | exact alOk_f rfl), _, _, cmp_at _ _ _ b0 b1 x0 x1, ?_⟩) | (with_reducible first | refine slice_old ?_ | refine app_grow ?_ | refine idx_map (by omega) ?_ | refine W_reg [(0, [0, 1, 2]), (1, [0, 1, 2, 8]), (2, [0, 1, 2, 8, 9, 10]), (3, [0, 1, 2, 8, 9, 10, 17]), (4, [0, 1, 2, 8, 9, 10, 11]), (5, [0, 1, 2, 8, 9, 10, 11, 31]), (6, [0, 1, 2, 8, 9, 10]), (7, [0, 1, 2, 8, 9, 10]), (8, [6, 7])] ?_ | refine W_drw [(0, [0, 1, 2]), (1, [0, 1, 2, 8]), (2, [0, 1, 2, 8, 9, 10]), (3, [0, 1, 2, 8, 9, 10, 17]), (4, [0, 1, 2, 8, 9, 10, 11]), (5, [0, 1, 2, 8, 9, 10, 11, 31]), (6, [0, 1, 2, 8, 9, 10]), (7, [0, 1, 2, 8, 9, 10]), (8, [6, 7])] (by kernel_rfl) ?_ | refine W_label ?_ | refine W_skip ?_ | refine W_exit ?_ | refine W_ret ?_ | refine end_at0 ?_) | (with_reducible refine And.intro (fun h => ?_) (fun h => ?_)) | (with_reducible refine And.intro (by omega) ?_)); (try simp only [go_sem, Nat.reduceAdd, Nat.reduceSub, Nat.reduceMul, Nat.reduceDiv, Nat.reduceMod, Nat.reducePow, Nat.reduceLT, Nat.reduceEqDiff, Nat.reduceBEq, Nat.reduceLeDiff, reduceIte, reduceCtorEq, Int.reduceLT, Int.reduceLE, Int.reduceEq, Int.reduceNe, Int.reduceNeg, Int.reduceAdd, Int.reduceSub, Int.reduceMul, Int.reduceToNat, Int.reducePow, Int.reduceDiv, Int.reduceMod, Nat.reduceSucc, encDS, hij', hh, hc', Try.ntmps62, Try.results62, bsS]))
        | fail)
      have hmp : m < p := by
        rcases Nat.lt_or_ge m p with h | h
        · exact h
        · have := hhi m hlt h; omega
      refine ⟨(m + 1, j), [], ⟨hmp, h2, h3⟩, by dsimp only; omega, ?_⟩
      simp [go_sem]
    · have hc' : ¬ (l[m]).1 - x < 0 := by omega
      repeat' (first
        | (with_reducible first | refine W_seq ?_ | refine W_condT rfl ?_ | refine W_condF rfl ?_ | refine W_tf rfl (fun h => ?_) (fun h => ?_) | refine W_block ?_ | refine W_scope ?_ | refine endQ_ret ?_ | refine endQ_normal ?_)
        | ((with_reducible first | refine hK _ ?_ | refine hK _ _ ?_); clear hK K)
        | ((first | (with_reducible first | refine ops_cons (fun K hK => ?_) | refine opsd_cons (fun K hK => ?_) | refine ops_nil ?_ | refine fit_i64 (by omega) ?_ | refine fit_u8 (by omega) ?_ | refine fit_u64 (by omega) ?_ | refine fit_u32 (by omega) ?_ | refine fit_any ?_ | refine quo_nn (by omega) ?_ | refine rem_nn (by omega) ?_ | refine quo_any ?_ | refine rem_any ?_ | refine sh_in (by simp only [IntKind.bits]; omega) ?_) | ((with_reducible refine opsd_nil ?_); refine And.intro (by kernel_rfl) ?_) | with_reducible refine callV_snap ?_ | ((with_reducible refine call_go cmpS cmp_ok ?_); refine ⟨(by first | exact alOk_nil _ | exact alOk_f rfl), _, _, cmp_at _ _ _ b0 b1 x0 x1, ?_⟩) | (with_reducible first | refine slice_old ?_ | refine app_grow ?_ | refine idx_map (by omega) ?_ | refine W_reg [(0, [0, 1, 2]), (1, [0, 1, 2, 8]), (2, [0, 1, 2, 8, 9, 10]), (3, [0, 1, 2, 8, 9, 10, 17]), (4, [0, 1, 2, 8, 9, 10, 11]), (5, [0, 1, 2, 8, 9, 10, 11, 31]), (6, [0, 1, 2, 8, 9, 10]), (7, [0, 1, 2, 8, 9, 10]), (8, [6, 7])] ?_ | refine W_drw [(0, [0, 1, 2]), (1, [0, 1, 2, 8]), (2, [0, 1, 2, 8, 9, 10]), (3, [0, 1, 2, 8, 9, 10, 17]), (4, [0, 1, 2, 8, 9, 10, 11]), (5, [0, 1, 2, 8, 9, 10, 11, 31]), (6, [0, 1, 2, 8, 9, 10]), (7, [0, 1, 2, 8, 9, 10]), (8, [6, 7])] (by kernel_rfl) ?_ | refine W_label ?_ | refine W_skip ?_ | refine W_exit ?_ | refine W_ret ?_ | refine end_at0 ?_) | (with_reducible refine And.intro (fun h => ?_) (fun h => ?_)) | (with_reducible refine And.intro (by omega) ?_)); (try simp only [go_sem, Nat.reduceAdd, Nat.reduceSub, Nat.reduceMul, Nat.reduceDiv, Nat.reduceMod, Nat.reducePow, Nat.reduceLT, Nat.reduceEqDiff, Nat.reduceBEq, Nat.reduceLeDiff, reduceIte, reduceCtorEq, Int.reduceLT, Int.reduceLE, Int.reduceEq, Int.reduceNe, Int.reduceNeg, Int.reduceAdd, Int.reduceSub, Int.reduceMul, Int.reduceToNat, Int.reducePow, Int.reduceDiv, Int.reduceMod, Nat.reduceSucc, encDS, hij', hh, hc', Try.ntmps62, Try.results62, bsS]))
        | fail)
      have hmp : p ≤ m := by
        rcases Nat.lt_or_ge m p with h | h
        · exact absurd (hlo m hlt h) hc
        · exact h
      refine ⟨(i, m), [], ⟨h1, hmp, by dsimp only; omega⟩, by dsimp only; omega, ?_⟩
      simp [go_sem]
  · have hij' : ¬ (i : Int) < j := by omega
    obtain rfl : i = p := by omega
    by_cases hlt : i < l.length
    · have hki : (i : Int) < l.length := by omega
      obtain ⟨b0, b1, _, _⟩ := hv.get _ hlt
      by_cases hx : (l[i]).1 = x
      · have hx' : (l[i]).1 - x = 0 := by omega
        have hbt : b = true := hb.2 ⟨hlt, hx⟩
        repeat' (first
          | (with_reducible first | refine W_seq ?_ | refine W_condT rfl ?_ | refine W_condF rfl ?_ | refine W_tf rfl (fun h => ?_) (fun h => ?_) | refine W_block ?_ | refine W_scope ?_ | refine endQ_ret ?_ | refine endQ_normal ?_)
          | ((with_reducible first | refine hK _ ?_ | refine hK _ _ ?_); clear hK K)
          | ((first | (with_reducible first | refine ops_cons (fun K hK => ?_) | refine opsd_cons (fun K hK => ?_) | refine ops_nil ?_ | refine fit_i64 (by omega) ?_ | refine fit_u8 (by omega) ?_ | refine fit_u64 (by omega) ?_ | refine fit_u32 (by omega) ?_ | refine fit_any ?_ | refine quo_nn (by omega) ?_ | refine rem_nn (by omega) ?_ | refine quo_any ?_ | refine rem_any ?_ | refine sh_in (by simp only [IntKind.bits]; omega) ?_) | ((with_reducible refine opsd_nil ?_); refine And.intro (by kernel_rfl) ?_) | with_reducible refine callV_snap ?_ | ((with_reducible refine call_go cmpS cmp_ok ?_); refine ⟨(by first | exact alOk_nil _ | exact alOk_f rfl), _, _, cmp_at _ _ _ b0 b1 x0 x1, ?_⟩) | (with_reducible first | refine slice_old ?_ | refine app_grow ?_ | refine idx_map (by omega) ?_ | refine W_reg [(0, [0, 1, 2]), (1, [0, 1, 2, 8]), (2, [0, 1, 2, 8, 9, 10]), (3, [0, 1, 2, 8, 9, 10, 17]), (4, [0, 1, 2, 8, 9, 10, 11]), (5, [0, 1, 2, 8, 9, 10, 11, 31]), (6, [0, 1, 2, 8, 9, 10]), (7, [0, 1, 2, 8, 9, 10]), (8, [6, 7])] ?_ | refine W_drw [(0, [0, 1, 2]), (1, [0, 1, 2, 8]), (2, [0, 1, 2, 8, 9, 10]), (3, [0, 1, 2, 8, 9, 10, 17]), (4, [0, 1, 2, 8, 9, 10, 11]), (5, [0, 1, 2, 8, 9, 10, 11, 31]), (6, [0, 1, 2, 8, 9, 10]), (7, [0, 1, 2, 8, 9, 10]), (8, [6, 7])] (by kernel_rfl) ?_ | refine W_label ?_ | refine W_skip ?_ | refine W_exit ?_ | refine W_ret ?_ | refine end_at0 ?_) | (with_reducible refine And.intro (fun h => ?_) (fun h => ?_)) | (with_reducible refine And.intro (by omega) ?_)); (try simp only [go_sem, Nat.reduceAdd, Nat.reduceSub, Nat.reduceMul, Nat.reduceDiv, Nat.reduceMod, Nat.reducePow, Nat.reduceLT, Nat.reduceEqDiff, Nat.reduceBEq, Nat.reduceLeDiff, reduceIte, reduceCtorEq, Int.reduceLT, Int.reduceLE, Int.reduceEq, Int.reduceNe, Int.reduceNeg, Int.reduceAdd, Int.reduceSub, Int.reduceMul, Int.reduceToNat, Int.reducePow, Int.reduceDiv, Int.reduceMod, Nat.reduceSucc, encDS, hij', hki, hx', hbt, Try.ntmps62, Try.results62, bsS]))
          | fail)
      · have hx' : ¬ (l[i]).1 - x = 0 := by omega
        have hbt : b = false := by
          cases b with
          | false => rfl
          | true => obtain ⟨_, h⟩ := hb.1 rfl; exact absurd h hx
        repeat' (first
          | (with_reducible first | refine W_seq ?_ | refine W_condT rfl ?_ | refine W_condF rfl ?_ | refine W_tf rfl (fun h => ?_) (fun h => ?_) | refine W_block ?_ | refine W_scope ?_ | refine endQ_ret ?_ | refine endQ_normal ?_)
          | ((with_reducible first | refine hK _ ?_ | refine hK _ _ ?_); clear hK K)
          | ((first | (with_reducible first | refine ops_cons (fun K hK => ?_) | refine opsd_cons (fun K hK => ?_) | refine ops_nil ?_ | refine fit_i64 (by omega) ?_ | refine fit_u8 (by omega) ?_ | refine fit_u64 (by omega) ?_ | refine fit_u32 (by omega) ?_ | refine fit_any ?_ | refine quo_nn (by omega) ?_ | refine rem_nn (by omega) ?_ | refine quo_any ?_ | refine rem_any ?_ | refine sh_in (by simp only [IntKind.bits]; omega) ?_) | ((with_reducible refine opsd_nil ?_); refine And.intro (by kernel_rfl) ?_) | with_reducible refine callV_snap ?_ | ((with_reducible refine call_go cmpS cmp_ok ?_); refine ⟨(by first | exact alOk_nil _ | exact alOk_f rfl), _, _, cmp_at _ _ _ b0 b1 x0 x1, ?_⟩) | (with_reducible first | refine slice_old ?_ | refine app_grow ?_ | refine idx_map (by omega) ?_ | refine W_reg [(0, [0, 1, 2]), (1, [0, 1, 2, 8]), (2, [0, 1, 2, 8, 9, 10]), (3, [0, 1, 2, 8, 9, 10, 17]), (4, [0, 1, 2, 8, 9, 10, 11]), (5, [0, 1, 2, 8, 9, 10, 11, 31]), (6, [0, 1, 2, 8, 9, 10]), (7, [0, 1, 2, 8, 9, 10]), (8, [6, 7])] ?_ | refine W_drw [(0, [0, 1, 2]), (1, [0, 1, 2, 8]), (2, [0, 1, 2, 8, 9, 10]), (3, [0, 1, 2, 8, 9, 10, 17]), (4, [0, 1, 2, 8, 9, 10, 11]), (5, [0, 1, 2, 8, 9, 10, 11, 31]), (6, [0, 1, 2, 8, 9, 10]), (7, [0, 1, 2, 8, 9, 10]), (8, [6, 7])] (by kernel_rfl) ?_ | refine W_label ?_ | refine W_skip ?_ | refine W_exit ?_ | refine W_ret ?_ | refine end_at0 ?_) | (with_reducible refine And.intro (fun h => ?_) (fun h => ?_)) | (with_reducible refine And.intro (by omega) ?_)); (try simp only [go_sem, Nat.reduceAdd, Nat.reduceSub, Nat.reduceMul, Nat.reduceDiv, Nat.reduceMod, Nat.reducePow, Nat.reduceLT, Nat.reduceEqDiff, Nat.reduceBEq, Nat.reduceLeDiff, reduceIte, reduceCtorEq, Int.reduceLT, Int.reduceLE, Int.reduceEq, Int.reduceNe, Int.reduceNeg, Int.reduceAdd, Int.reduceSub, Int.reduceMul, Int.reduceToNat, Int.reducePow, Int.reduceDiv, Int.reduceMod, Nat.reduceSucc, encDS, hij', hki, hx', hbt, Try.ntmps62, Try.results62, bsS]))
          | fail)
    · have hki : ¬ (i : Int) < l.length := by omega
      have hbt : b = false := by
        cases b with
        | false => rfl
        | true => obtain ⟨h, _⟩ := hb.1 rfl; exact absurd h hlt
      repeat' (first
        | (with_reducible first | refine W_seq ?_ | refine W_condT rfl ?_ | refine W_condF rfl ?_ | refine W_tf rfl (fun h => ?_) (fun h => ?_) | refine W_block ?_ | refine W_scope ?_ | refine endQ_ret ?_ | refine endQ_normal ?_)
        | ((with_reducible first | refine hK _ ?_ | refine hK _ _ ?_); clear hK K)
        | ((first | (with_reducible first | refine ops_cons (fun K hK => ?_) | refine opsd_cons (fun K hK => ?_) | refine ops_nil ?_ | refine fit_i64 (by omega) ?_ | refine fit_u8 (by omega) ?_ | refine fit_u64 (by omega) ?_ | refine fit_u32 (by omega) ?_ | refine fit_any ?_ | refine quo_nn (by omega) ?_ | refine rem_nn (by omega) ?_ | refine quo_any ?_ | refine rem_any ?_ | refine sh_in (by simp only [IntKind.bits]; omega) ?_) | ((with_reducible refine opsd_nil ?_); refine And.intro (by kernel_rfl) ?_) | with_reducible refine callV_snap ?_ | (with_reducible first | refine slice_old ?_ | refine app_grow ?_ | refine idx_map (by omega) ?_ | refine W_reg [(0, [0, 1, 2]), (1, [0, 1, 2, 8]), (2, [0, 1, 2, 8, 9, 10]), (3, [0, 1, 2, 8, 9, 10, 17]), (4, [0, 1, 2, 8, 9, 10, 11]), (5, [0, 1, 2, 8, 9, 10, 11, 31]), (6, [0, 1, 2, 8, 9, 10]), (7, [0, 1, 2, 8, 9, 10]), (8, [6, 7])] ?_ | refine W_drw [(0, [0, 1, 2]), (1, [0, 1, 2, 8]), (2, [0, 1, 2, 8, 9, 10]), (3, [0, 1, 2, 8, 9, 10, 17]), (4, [0, 1, 2, 8, 9, 10, 11]), (5, [0, 1, 2, 8, 9, 10, 11, 31]), (6, [0, 1, 2, 8, 9, 10]), (7, [0, 1, 2, 8, 9, 10]), (8, [6, 7])] (by kernel_rfl) ?_ | refine W_label ?_ | refine W_skip ?_ | refine W_exit ?_ | refine W_ret ?_ | refine end_at0 ?_) | (with_reducible refine And.intro (fun h => ?_) (fun h => ?_)) | (with_reducible refine And.intro (by omega) ?_)); (try simp only [go_sem, Nat.reduceAdd, Nat.reduceSub, Nat.reduceMul, Nat.reduceDiv, Nat.reduceMod, Nat.reducePow, Nat.reduceLT, Nat.reduceEqDiff, Nat.reduceBEq, Nat.reduceLeDiff, reduceIte, reduceCtorEq, Int.reduceLT, Int.reduceLE, Int.reduceEq, Int.reduceNe, Int.reduceNeg, Int.reduceAdd, Int.reduceSub, Int.reduceMul, Int.reduceToNat, Int.reducePow, Int.reduceDiv, Int.reduceMod, Nat.reduceSucc, encDS, hij', hki, hbt, Try.ntmps62, Try.results62, bsS]))
        | fail)

def findS : Spec := { rel := fun args ins res outs => ∃ (c : List (Int × Int)) (x : Int) (p : Nat) (b : Bool), c.length ≤ 1000000 ∧ Val c ∧ 0 ≤ x ∧ x < 256 ∧ At c x p ∧ (b = true ↔ ∃ h : p < c.length, (c[p]).1 = x) ∧ args = [dS c, iv x] ∧ ins = [] ∧ res = .tup [iv p, bv b] ∧ outs = [] }
theorem find_at (c : List (Int × Int)) (x : Int) (p : Nat) (b : Bool) (h : c.length ≤ 1000000) (hv : Val c) (x0 : 0 ≤ x) (x1 : x < 256) (ha : At c x p) (hb : b = true ↔ ∃ h : p < c.length, (c[p]).1 = x) : findS.rel [dS c, iv x] [] (.tup [iv p, bv b]) [] := ⟨c, x, p, b, h, hv, x0, x1, ha, hb, rfl, rfl, rfl, rfl⟩
theorem find_ok : Ok Try.prog 43 findS := by
  refine fn_ok findS Try.func43 rfl rfl ?_
  rintro args ins res outs ⟨l, x, p, b, hl, hv, x0, x1, ha, hb, rfl, rfl, rfl, rfl⟩
  refine ⟨by simp [Try.ntmps43], fun w0 V Bo mu0 => ?_⟩
  repeat' (first
    | (with_reducible first | refine W_seq ?_ | refine W_condT rfl ?_ | refine W_condF rfl ?_ | refine W_tf rfl (fun h => ?_) (fun h => ?_) | refine W_block ?_ | refine W_scope ?_ | refine endQ_ret ?_ | refine endQ_normal ?_)
    | ((with_reducible first | refine hK _ ?_ | refine hK _ _ ?_); clear hK K)
    | ((first | (with_reducible first | refine ops_cons (fun K hK => ?_) | refine opsd_cons (fun K hK => ?_) | refine ops_nil ?_ | refine fit_i64 (by omega) ?_ | refine fit_u8 (by omega) ?_ | refine fit_u64 (by omega) ?_ | refine fit_u32 (by omega) ?_ | refine fit_any ?_ | refine quo_nn (by omega) ?_ | refine rem_nn (by omega) ?_ | refine quo_any ?_ | refine rem_any ?_ | refine sh_in (by simp only [IntKind.bits]; omega) ?_) | ((with_reducible refine opsd_nil ?_); refine And.intro (by kernel_rfl) ?_) | with_reducible refine callV_snap ?_ | ((with_reducible refine call_go bsS bs_ok ?_); refine ⟨(by first | exact alOk_nil _ | exact alOk_f rfl), _, _, bs_at _ _ p b hl hv x0 x1 ha hb, ?_⟩) | (with_reducible first | refine slice_old ?_ | refine app_grow ?_ | refine idx_map (by omega) ?_ | refine W_reg [(0, [0, 1]), (1, [4, 5])] ?_ | refine W_drw [(0, [0, 1]), (1, [4, 5])] (by kernel_rfl) ?_ | refine W_label ?_ | refine W_skip ?_ | refine W_exit ?_ | refine W_ret ?_ | refine end_at0 ?_) | (with_reducible refine And.intro (fun h => ?_) (fun h => ?_)) | (with_reducible refine And.intro (by omega) ?_)); (try simp only [go_sem, Nat.reduceAdd, Nat.reduceSub, Nat.reduceMul, Nat.reduceDiv, Nat.reduceMod, Nat.reducePow, Nat.reduceLT, Nat.reduceEqDiff, Nat.reduceBEq, Nat.reduceLeDiff, reduceIte, reduceCtorEq, Int.reduceLT, Int.reduceLE, Int.reduceEq, Int.reduceNe, Int.reduceNeg, Int.reduceAdd, Int.reduceSub, Int.reduceMul, Int.reduceToNat, Int.reducePow, Int.reduceDiv, Int.reduceMod, Nat.reduceSucc, Try.ntmps43, Try.results43, findS]))
    | fail)

def CloneS : Spec := { rel := fun args ins res outs => ∃ c : List (Int × Int), c.length ≤ 1000000 ∧ args = [dS c] ∧ ins = [] ∧ res = .row 0 2 0 c.length ∧ outs = [.rows 38 2 (c.map encDS)] }
theorem Clone_at (c : List (Int × Int)) (h : c.length ≤ 1000000) : CloneS.rel [dS c] [] (.row 0 2 0 c.length) [.rows 38 2 (c.map encDS)] := ⟨c, h, rfl, rfl, rfl, rfl⟩
theorem Clone_ok : Ok Try.prog 42 CloneS := by
  refine fn_ok CloneS Try.func42 rfl rfl ?_
  rintro args ins res outs ⟨c, hc, rfl, rfl, rfl, rfl⟩
  refine ⟨by simp [Try.ntmps42], fun w0 V Bo mu0 => ?_⟩
  repeat' (first
    | (with_reducible first | refine W_seq ?_ | refine W_condT rfl ?_ | refine W_condF rfl ?_ | refine W_tf rfl (fun h => ?_) (fun h => ?_) | refine W_block ?_ | refine W_scope ?_ | refine endQ_ret ?_ | refine endQ_normal ?_)
    | ((with_reducible first | refine hK _ ?_ | refine hK _ _ ?_); clear hK K)
    | ((with_reducible refine And.intro (rowsS _) ?_))
    | ((first | (with_reducible first | refine ops_cons (fun K hK => ?_) | refine opsd_cons (fun K hK => ?_) | refine ops_nil ?_ | refine fit_i64 (by omega) ?_ | refine fit_u8 (by omega) ?_ | refine fit_u64 (by omega) ?_ | refine fit_u32 (by omega) ?_ | refine fit_any ?_ | refine quo_nn (by omega) ?_ | refine rem_nn (by omega) ?_ | refine quo_any ?_ | refine rem_any ?_ | refine sh_in (by simp only [IntKind.bits]; omega) ?_) | ((with_reducible refine opsd_nil ?_); refine And.intro (by kernel_rfl) ?_) | with_reducible refine callV_snap ?_ | (with_reducible first | refine slice_old ?_ | refine app_grow ?_ | refine idx_map (by omega) ?_ | refine W_reg [(0, [0]), (1, [0, 4]), (2, [2]), (3, [2])] ?_ | refine W_drw [(0, [0]), (1, [0, 4]), (2, [2]), (3, [2])] (by kernel_rfl) ?_ | refine W_label ?_ | refine W_skip ?_ | refine W_exit ?_ | refine end_at0 ?_) | (with_reducible refine And.intro (fun h => ?_) (fun h => ?_)) | (with_reducible refine And.intro (by omega) ?_)); (try simp only [go_sem, Nat.reduceAdd, Nat.reduceSub, Nat.reduceMul, Nat.reduceDiv, Nat.reduceMod, Nat.reducePow, Nat.reduceLT, Nat.reduceEqDiff, Nat.reduceBEq, Nat.reduceLeDiff, reduceIte, reduceCtorEq, Int.reduceLT, Int.reduceLE, Int.reduceEq, Int.reduceNe, Int.reduceNeg, Int.reduceAdd, Int.reduceSub, Int.reduceMul, Int.reduceToNat, Int.reducePow, Int.reduceDiv, Int.reduceMod, Nat.reduceSucc, Try.ntmps42, Try.results42, CloneS]))
    | fail)
  · obtain rfl : c = [] := List.eq_nil_of_length_eq_zero h
    refine W_adopt 2 38 2 (by decide) (by simp [go_sem]) ?_
    refine W_ret (endQ_ret (end_at [0] ?_))
    simp [go_sem, Try.results42, CloneS]
  · refine W_ret (endQ_ret (end_at [1] ?_))
    simp [go_sem, Try.results42, CloneS]
    exact flatS'

def DelS : Spec := { rel := fun args ins res outs => ∃ (c : List (Int × Int)) (i : Nat), c.length ≤ 1000000 ∧ i < c.length ∧ args = [.row 0 2 0 c.length, iv i, iv (i + 1)] ∧ ins = [.rows 38 2 (c.map encDS)] ∧ res = .row 0 2 0 (c.length - 1) ∧ outs = [.rows 38 2 ((c.eraseIdx i).map encDS)] }
theorem Del_at (c : List (Int × Int)) (i : Nat) (h : c.length ≤ 1000000) (hi : i < c.length) : DelS.rel [.row 0 2 0 c.length, iv i, iv (i + 1)] [.rows 38 2 (c.map encDS)] (.row 0 2 0 (c.length - 1)) [.rows 38 2 ((c.eraseIdx i).map encDS)] := ⟨c, i, h, hi, rfl, rfl, rfl, rfl⟩
set_option maxHeartbeats 2000000 in
theorem Del_ok : Ok Try.prog 50 DelS := by
  refine fn_ok DelS Try.func50 rfl rfl ?_
  rintro args ins res outs ⟨c, i, hc, hi, rfl, rfl, rfl, rfl⟩
  refine ⟨by simp [Try.ntmps50], fun w0 V Bo mu0 => ?_⟩
  have h1 : ¬ (i : Int) = i + 1 := by omega
  have hi1 : ((i : Int) + 1).toNat = i + 1 := by omega
  have hd : List.take (c.length - (i + 1)) (List.drop (i + 1) (List.map encDS c)) = (c.drop (i + 1)).map encDS := by rw [← List.map_drop]; exact List.take_of_length_le (by simp)
  have hn : i + (c.length - (i + 1)) = c.length - 1 := by omega
  have hn2 : ((c.length - 1 : Nat) : Int).toNat = c.length - 1 := by omega
  have hn3 : c.length - (c.length - 1) = 1 := by omega
  have hm : List.take i (List.map encDS c) ++ ((c.drop (i + 1)).map encDS ++ List.drop (c.length - 1) (List.map encDS c)) = (c.eraseIdx i).map encDS ++ List.drop (c.length - 1) (List.map encDS c) := by
    rw [List.eraseIdx_eq_take_drop_succ, List.map_append, List.map_take, List.append_assoc]
  have hml : ((c.eraseIdx i).map encDS).length = c.length - 1 := by simp [List.length_eraseIdx, hi]
  have hL : (List.map encDS (c.eraseIdx i) ++ List.drop (c.length - 1) (List.map encDS c)).length = c.length := by rw [List.length_append, hml]; simp
  have hT : List.take (c.length - 1) (List.map encDS (c.eraseIdx i) ++ List.drop (c.length - 1) (List.map encDS c)) = List.map encDS (c.eraseIdx i) := List.take_left' hml
  repeat' (first
    | (with_reducible first | refine W_seq ?_ | refine W_condT rfl ?_ | refine W_condF rfl ?_ | refine W_tf rfl (fun h => ?_) (fun h => ?_) | refine W_block ?_ | refine W_scope ?_ | refine endQ_ret ?_ | refine endQ_normal ?_)
    | ((with_reducible first | refine hK _ ?_ | refine hK _ _ ?_); clear hK K)
    | ((with_reducible refine slice_new (mx := some (.tmp 12)) ?_); simp only [go_sem, Nat.reduceAdd, Nat.reduceSub, Nat.reduceMul, Nat.reduceDiv, Nat.reduceMod, Nat.reducePow, Nat.reduceLT, Nat.reduceEqDiff, Nat.reduceBEq, Nat.reduceLeDiff, reduceIte, reduceCtorEq, Int.reduceLT, Int.reduceLE, Int.reduceEq, Int.reduceNe, Int.reduceNeg, Int.reduceAdd, Int.reduceSub, Int.reduceMul, Int.reduceToNat, Int.reducePow, Int.reduceDiv, Int.reduceMod, Nat.reduceSucc])
    | ((with_reducible refine slice_new (lo := some (.tmp 29)) ?_); simp only [go_sem, Nat.reduceAdd, Nat.reduceSub, Nat.reduceMul, Nat.reduceDiv, Nat.reduceMod, Nat.reducePow, Nat.reduceLT, Nat.reduceEqDiff, Nat.reduceBEq, Nat.reduceLeDiff, reduceIte, reduceCtorEq, Int.reduceLT, Int.reduceLE, Int.reduceEq, Int.reduceNe, Int.reduceNeg, Int.reduceAdd, Int.reduceSub, Int.reduceMul, Int.reduceToNat, Int.reducePow, Int.reduceDiv, Int.reduceMod, Nat.reduceSucc, hn2, hn3, hL])
    | ((with_reducible refine app_in ?_); simp only [go_sem, Nat.reduceAdd, Nat.reduceSub, Nat.reduceMul, Nat.reduceDiv, Nat.reduceMod, Nat.reducePow, Nat.reduceLT, Nat.reduceEqDiff, Nat.reduceBEq, Nat.reduceLeDiff, reduceIte, reduceCtorEq, Int.reduceLT, Int.reduceLE, Int.reduceEq, Int.reduceNe, Int.reduceNeg, Int.reduceAdd, Int.reduceSub, Int.reduceMul, Int.reduceToNat, Int.reducePow, Int.reduceDiv, Int.reduceMod, Nat.reduceSucc, hi1, hd, hn, hm, List.length_drop])
    | ((first | (with_reducible first | refine ops_cons (fun K hK => ?_) | refine opsd_cons (fun K hK => ?_) | refine ops_nil ?_ | refine fit_i64 (by omega) ?_ | refine fit_u8 (by omega) ?_ | refine fit_u64 (by omega) ?_ | refine fit_u32 (by omega) ?_ | refine fit_any ?_ | refine quo_nn (by omega) ?_ | refine rem_nn (by omega) ?_ | refine quo_any ?_ | refine rem_any ?_ | refine sh_in (by simp only [IntKind.bits]; omega) ?_) | ((with_reducible refine opsd_nil ?_); refine And.intro (by kernel_rfl) ?_) | with_reducible refine callV_snap ?_ | (with_reducible first | refine slice_old ?_ | refine app_grow ?_ | refine idx_map (by omega) ?_ | refine W_reg [(0, [0, 1, 2]), (1, [0, 1, 2]), (2, [0, 1, 2, 16]), (3, [6]), (4, [0, 1, 2, 7]), (5, [0, 7]), (6, [0]), (7, [6])] ?_ | refine W_drw [(0, [0, 1, 2]), (1, [0, 1, 2]), (2, [0, 1, 2, 16]), (3, [6]), (4, [0, 1, 2, 7]), (5, [0, 7]), (6, [0]), (7, [6])] (by kernel_rfl) ?_ | refine W_label ?_ | refine W_skip ?_ | refine W_exit ?_ | refine end_at0 ?_) | (with_reducible refine And.intro (fun h => ?_) (fun h => ?_)) | (with_reducible refine And.intro (by omega) ?_)); (try simp only [go_sem, Nat.reduceAdd, Nat.reduceSub, Nat.reduceMul, Nat.reduceDiv, Nat.reduceMod, Nat.reducePow, Nat.reduceLT, Nat.reduceEqDiff, Nat.reduceBEq, Nat.reduceLeDiff, reduceIte, reduceCtorEq, Int.reduceLT, Int.reduceLE, Int.reduceEq, Int.reduceNe, Int.reduceNeg, Int.reduceAdd, Int.reduceSub, Int.reduceMul, Int.reduceToNat, Int.reducePow, Int.reduceDiv, Int.reduceMod, Nat.reduceSucc, h1, hi1, hd, hn, hn2, hn3, hm, hL, hT, List.length_drop, Try.ntmps50, Try.results50, DelS]))
    | fail)
  refine W_trim 0 (c.length - 1) rfl ?_
  refine W_ret (endQ_ret (end_at [0] ?_))
  have hT2 : ∀ X : List (List D), List.take (c.length - 1) (List.map encDS (c.eraseIdx i) ++ X) = List.map encDS (c.eraseIdx i) := fun X => List.take_left' hml
  simp only [go_sem, hT2]
  simp [go_sem, Try.results50, DelS]
  exact flatS'
end Go.Proofs.Ytokocigmchfdfaa
