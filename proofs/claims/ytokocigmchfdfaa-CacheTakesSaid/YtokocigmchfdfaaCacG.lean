import Derived.Test.YtokocigmchfdfaaCacF

/- The partial slabs, and tidying, by the engine. -/
namespace Go.Proofs.Ytokocigmchfdfaa
open Go.RowKit
set_option maxRecDepth 100000
set_option linter.unusedSimpArgs false
set_option linter.unusedVariables false

theorem Lo.uniq {c : List (Int × Int)} {i j : Nat} (h : Lo c i) (k : Lo c j) : i = j := by
  obtain ⟨h1, h2, h3⟩ := h
  obtain ⟨k1, k2, k3⟩ := k
  rcases Nat.lt_trichotomy i j with h | h | h
  · exact absurd (k3 i h1 h) h2
  · exact h
  · exact absurd (h3 j k1 h) k2
theorem Hi.uniq {c : List (Int × Int)} {i j : Nat} (h : Hi c i) (k : Hi c j) : i = j := by
  obtain ⟨h1, h2, h3⟩ := h
  obtain ⟨k1, k2, k3⟩ := k
  rcases Nat.lt_trichotomy i j with h | h | h
  · exact absurd (h3 j k1 h) k2
  · exact h
  · exact absurd (k3 i h1 h) h2
theorem Lo.not_full {c : List (Int × Int)} {i : Nat} (h : Lo c i) : ¬ Full c := fun hf => h.2.1 (hf _ (List.getElem_mem h.1))

/-- what partial says -/
def Pt (c : List (Int × Int)) (a b : Int) : Prop := (Full c ∧ a = -1 ∧ b = -1) ∨ ∃ i j : Nat, Lo c i ∧ Hi c j ∧ a = i ∧ b = j
theorem Pt.uniq {c : List (Int × Int)} {a b a' b' : Int} (h : Pt c a b) (k : Pt c a' b') : a = a' ∧ b = b' := by
  rcases h with ⟨h1, rfl, rfl⟩ | ⟨i, j, h1, h2, rfl, rfl⟩
  · rcases k with ⟨_, rfl, rfl⟩ | ⟨i, j, k1, _⟩
    · exact ⟨rfl, rfl⟩
    · exact absurd h1 k1.not_full
  · rcases k with ⟨k1, _⟩ | ⟨i', j', k1, k2, rfl, rfl⟩
    · exact absurd k1 h1.not_full
    · rw [h1.uniq k1, h2.uniq k2]; exact ⟨rfl, rfl⟩
theorem Full.snoc {c : List (Int × Int)} {s : Int × Int} (h : Full c) (hs : s.2 = 255) : Full (c ++ [s]) := by
  intro x hx
  rcases List.mem_append.1 hx with hx | hx
  · exact h x hx
  · simp at hx; subst hx; exact hs
theorem get_snoc_lt {c : List (Int × Int)} {s : Int × Int} {j : Nat} (h : j < c.length) (h' : j < (c ++ [s]).length) : (c ++ [s])[j] = c[j] := List.getElem_append_left h
theorem Pt.zero : Pt [] (-1) (-1) := .inl ⟨fun s hs => absurd hs List.not_mem_nil, rfl, rfl⟩
theorem Pt.skip {c : List (Int × Int)} {s : Int × Int} {a b : Int} (h : Pt c a b) (hs : s.2 = 255) : Pt (c ++ [s]) a b := by
  rcases h with ⟨h1, rfl, rfl⟩ | ⟨i, j, ⟨i1, i2, i3⟩, ⟨j1, j2, j3⟩, rfl, rfl⟩
  · exact .inl ⟨h1.snoc hs, rfl, rfl⟩
  · refine .inr ⟨i, j, ⟨by simp; omega, by rw [get_snoc_lt i1]; exact i2, fun k hk hki => by rw [get_snoc_lt (by omega)]; exact i3 k (by omega) hki⟩, ⟨by simp; omega, by rw [get_snoc_lt j1]; exact j2, fun k hk hkj => ?_⟩, rfl, rfl⟩
    by_cases hkc : k < c.length
    · rw [get_snoc_lt hkc]; exact j3 k hkc hkj
    · have : k = c.length := by simp at hk; omega
      subst this; simpa using hs
theorem hi_last {c : List (Int × Int)} {s : Int × Int} (hs : s.2 ≠ 255) : Hi (c ++ [s]) c.length := ⟨by simp, by simpa using hs, fun k hk hkj => by simp at hk; omega⟩
theorem Pt.first {c : List (Int × Int)} {s : Int × Int} {b : Int} (h : Pt c (-1) b) (hs : s.2 ≠ 255) : Pt (c ++ [s]) c.length c.length := by
  rcases h with ⟨h1, _⟩ | ⟨i, j, _, _, h, _⟩
  · exact .inr ⟨c.length, c.length, ⟨by simp, by simpa using hs, fun k hk hkj => by rw [get_snoc_lt hkj]; exact h1 _ (List.getElem_mem hkj)⟩, hi_last hs, rfl, rfl⟩
  · omega
theorem Pt.more {c : List (Int × Int)} {s : Int × Int} {a b : Int} (h : Pt c a b) (ha : 0 ≤ a) (hs : s.2 ≠ 255) : Pt (c ++ [s]) a c.length := by
  rcases h with ⟨_, rfl, _⟩ | ⟨i, j, ⟨i1, i2, i3⟩, _, rfl, _⟩
  · omega
  · exact .inr ⟨i, c.length, ⟨by simp; omega, by rw [get_snoc_lt i1]; exact i2, fun k hk hki => by rw [get_snoc_lt (by omega)]; exact i3 k (by omega) hki⟩, hi_last hs, rfl, rfl⟩
theorem Pt.neg {c : List (Int × Int)} {a b : Int} (h : Pt c a b) (ha : a < 0) : a = -1 := by
  rcases h with ⟨_, rfl, _⟩ | ⟨i, j, _, _, rfl, _⟩
  · rfl
  · omega

def partS : Spec := { rel := fun args ins res outs => ∃ (c : List (Int × Int)) (a b : Int), c.length ≤ 1000000 ∧ Val c ∧ Pt c a b ∧ args = [dS c] ∧ ins = [] ∧ res = .tup [iv a, iv b] ∧ outs = [] }
theorem part_at (c : List (Int × Int)) (a b : Int) (h : c.length ≤ 1000000) (hv : Val c) (hp : Pt c a b) : partS.rel [dS c] [] (.tup [iv a, iv b]) [] := ⟨c, a, b, h, hv, hp, rfl, rfl, rfl, rfl⟩
set_option maxHeartbeats 2000000 in
theorem part_ok : Ok Try.prog 52 partS := by
  refine fn_ok partS Try.func52 rfl rfl ?_
  rintro args ins res outs ⟨l, a0, b0, hl, hv, hp, rfl, rfl, rfl, rfl⟩
  refine ⟨by simp [Try.ntmps52], fun w0 V Bo mu0 => ?_⟩
  repeat' (first
    | (with_reducible first | refine W_seq ?_ | refine W_condT rfl ?_ | refine W_condF rfl ?_ | refine W_tf rfl (fun h => ?_) (fun h => ?_) | refine W_block ?_ | refine W_scope ?_ | refine endQ_ret ?_ | refine endQ_normal ?_)
    | ((with_reducible first | refine hK _ ?_ | refine hK _ _ ?_); clear hK K)
    | ((first | (with_reducible first | refine ops_cons (fun K hK => ?_) | refine opsd_cons (fun K hK => ?_) | refine ops_nil ?_ | refine fit_i64 (by omega) ?_ | refine fit_u8 (by omega) ?_ | refine fit_u64 (by omega) ?_ | refine fit_u32 (by omega) ?_ | refine fit_any ?_ | refine quo_nn (by omega) ?_ | refine rem_nn (by omega) ?_ | refine quo_any ?_ | refine rem_any ?_ | refine sh_in (by simp only [IntKind.bits]; omega) ?_) | ((with_reducible refine opsd_nil ?_); refine And.intro (by kernel_rfl) ?_) | with_reducible refine callV_snap ?_ | (with_reducible first | refine slice_old ?_ | refine app_grow ?_ | refine idx_map (by omega) ?_ | refine W_reg [(0, [0]), (1, [0, 2, 3]), (2, [2, 3, 6, 7, 8]), (3, [2, 3, 6, 7, 8, 9]), (4, [2, 3, 4, 5, 6, 7, 8]), (5, [2, 3, 4, 6, 7, 8, 20]), (6, [2, 4, 6, 7, 8, 22]), (7, [2, 4, 6, 7, 8]), (8, [2, 3, 6, 7, 8]), (9, [2, 3, 6, 7, 8]), (10, [2, 3])] ?_ | refine W_drw [(0, [0]), (1, [0, 2, 3]), (2, [2, 3, 6, 7, 8]), (3, [2, 3, 6, 7, 8, 9]), (4, [2, 3, 4, 5, 6, 7, 8]), (5, [2, 3, 4, 6, 7, 8, 20]), (6, [2, 4, 6, 7, 8, 22]), (7, [2, 4, 6, 7, 8]), (8, [2, 3, 6, 7, 8]), (9, [2, 3, 6, 7, 8]), (10, [2, 3])] (by kernel_rfl) ?_ | refine W_label ?_ | refine W_skip ?_ | refine W_exit ?_ | refine W_ret ?_ | refine end_at0 ?_) | (with_reducible refine And.intro (fun h => ?_) (fun h => ?_)) | (with_reducible refine And.intro (by omega) ?_)); (try simp only [go_sem, Nat.reduceAdd, Nat.reduceSub, Nat.reduceMul, Nat.reduceDiv, Nat.reduceMod, Nat.reducePow, Nat.reduceLT, Nat.reduceEqDiff, Nat.reduceBEq, Nat.reduceLeDiff, reduceIte, reduceCtorEq, Int.reduceLT, Int.reduceLE, Int.reduceEq, Int.reduceNe, Int.reduceNeg, Int.reduceAdd, Int.reduceSub, Int.reduceMul, Int.reduceToNat, Int.reducePow, Int.reduceDiv, Int.reduceMod, Nat.reduceSucc, Try.ntmps52, Try.results52, partS]))
    | fail)
  refine W_loop (fun x : Nat × Int × Int => ⟨[(2, iv x.2.1), (3, iv x.2.2), (6, dS l), (7, iv l.length), (8, iv x.1)], []⟩) (fun x => x.1 ≤ l.length ∧ Pt (l.take x.1) x.2.1 x.2.2) (fun x => l.length - x.1) (0, -1, -1) ⟨Nat.zero_le _, Pt.zero⟩ [] ?_ ?_
  · simp [go_sem]
  rintro ⟨k, a, b⟩ ⟨hk, hpt⟩
  dsimp only at hk hpt
  by_cases hlt : k < l.length
  · have hki : (k : Int) < l.length := by omega
    obtain ⟨c0, c1, c2, c3⟩ := hv.get k hlt
    have hz : ¬ (l[k]).2 = 0 := by omega
    have ht := List.take_succ_eq_append_getElem hlt
    have hlen : (l.take k).length = k := by simp; omega
    by_cases h255 : (l[k]).2 = 255
    · have hnx := hpt.skip h255
      rw [← ht] at hnx
      repeat' (first
        | (with_reducible first | refine W_seq ?_ | refine W_condT rfl ?_ | refine W_condF rfl ?_ | refine W_tf rfl (fun h => ?_) (fun h => ?_) | refine W_block ?_ | refine W_scope ?_ | refine endQ_ret ?_ | refine endQ_normal ?_)
        | ((with_reducible first | refine hK _ ?_ | refine hK _ _ ?_); clear hK K)
        | ((first | (with_reducible first | refine ops_cons (fun K hK => ?_) | refine opsd_cons (fun K hK => ?_) | refine ops_nil ?_ | refine fit_i64 (by omega) ?_ | refine fit_u8 (by omega) ?_ | refine fit_u64 (by omega) ?_ | refine fit_u32 (by omega) ?_ | refine fit_any ?_ | refine quo_nn (by omega) ?_ | refine rem_nn (by omega) ?_ | refine quo_any ?_ | refine rem_any ?_ | refine sh_in (by simp only [IntKind.bits]; omega) ?_) | ((with_reducible refine opsd_nil ?_); refine And.intro (by kernel_rfl) ?_) | with_reducible refine callV_snap ?_ | (with_reducible first | refine slice_old ?_ | refine app_grow ?_ | refine idx_map (by omega) ?_ | refine W_reg [(0, [0]), (1, [0, 2, 3]), (2, [2, 3, 6, 7, 8]), (3, [2, 3, 6, 7, 8, 9]), (4, [2, 3, 4, 5, 6, 7, 8]), (5, [2, 3, 4, 6, 7, 8, 20]), (6, [2, 4, 6, 7, 8, 22]), (7, [2, 4, 6, 7, 8]), (8, [2, 3, 6, 7, 8]), (9, [2, 3, 6, 7, 8]), (10, [2, 3])] ?_ | refine W_drw [(0, [0]), (1, [0, 2, 3]), (2, [2, 3, 6, 7, 8]), (3, [2, 3, 6, 7, 8, 9]), (4, [2, 3, 4, 5, 6, 7, 8]), (5, [2, 3, 4, 6, 7, 8, 20]), (6, [2, 4, 6, 7, 8, 22]), (7, [2, 4, 6, 7, 8]), (8, [2, 3, 6, 7, 8]), (9, [2, 3, 6, 7, 8]), (10, [2, 3])] (by kernel_rfl) ?_ | refine W_label ?_ | refine W_skip ?_ | refine W_exit ?_ | refine W_ret ?_ | refine end_at0 ?_) | (with_reducible refine And.intro (fun h => ?_) (fun h => ?_)) | (with_reducible refine And.intro (by omega) ?_)); (try simp only [go_sem, Nat.reduceAdd, Nat.reduceSub, Nat.reduceMul, Nat.reduceDiv, Nat.reduceMod, Nat.reducePow, Nat.reduceLT, Nat.reduceEqDiff, Nat.reduceBEq, Nat.reduceLeDiff, reduceIte, reduceCtorEq, Int.reduceLT, Int.reduceLE, Int.reduceEq, Int.reduceNe, Int.reduceNeg, Int.reduceAdd, Int.reduceSub, Int.reduceMul, Int.reduceToNat, Int.reducePow, Int.reduceDiv, Int.reduceMod, Nat.reduceSucc, encDS, hki, hz, h255, Try.ntmps52, Try.results52, partS]))
        | fail)
      refine ⟨(k + 1, a, b), [], ⟨hlt, hnx⟩, by dsimp only; omega, ?_⟩
      simp [go_sem]
    · by_cases ha : a < 0
      · have hnx : Pt (l.take (k + 1)) k k := by
          have h := hpt
          rw [hpt.neg ha] at h
          have h2 := h.first h255
          rw [← ht, hlen] at h2
          exact h2
        repeat' (first
          | (with_reducible first | refine W_seq ?_ | refine W_condT rfl ?_ | refine W_condF rfl ?_ | refine W_tf rfl (fun h => ?_) (fun h => ?_) | refine W_block ?_ | refine W_scope ?_ | refine endQ_ret ?_ | refine endQ_normal ?_)
          | ((with_reducible first | refine hK _ ?_ | refine hK _ _ ?_); clear hK K)
          | ((first | (with_reducible first | refine ops_cons (fun K hK => ?_) | refine opsd_cons (fun K hK => ?_) | refine ops_nil ?_ | refine fit_i64 (by omega) ?_ | refine fit_u8 (by omega) ?_ | refine fit_u64 (by omega) ?_ | refine fit_u32 (by omega) ?_ | refine fit_any ?_ | refine quo_nn (by omega) ?_ | refine rem_nn (by omega) ?_ | refine quo_any ?_ | refine rem_any ?_ | refine sh_in (by simp only [IntKind.bits]; omega) ?_) | ((with_reducible refine opsd_nil ?_); refine And.intro (by kernel_rfl) ?_) | with_reducible refine callV_snap ?_ | (with_reducible first | refine slice_old ?_ | refine app_grow ?_ | refine idx_map (by omega) ?_ | refine W_reg [(0, [0]), (1, [0, 2, 3]), (2, [2, 3, 6, 7, 8]), (3, [2, 3, 6, 7, 8, 9]), (4, [2, 3, 4, 5, 6, 7, 8]), (5, [2, 3, 4, 6, 7, 8, 20]), (6, [2, 4, 6, 7, 8, 22]), (7, [2, 4, 6, 7, 8]), (8, [2, 3, 6, 7, 8]), (9, [2, 3, 6, 7, 8]), (10, [2, 3])] ?_ | refine W_drw [(0, [0]), (1, [0, 2, 3]), (2, [2, 3, 6, 7, 8]), (3, [2, 3, 6, 7, 8, 9]), (4, [2, 3, 4, 5, 6, 7, 8]), (5, [2, 3, 4, 6, 7, 8, 20]), (6, [2, 4, 6, 7, 8, 22]), (7, [2, 4, 6, 7, 8]), (8, [2, 3, 6, 7, 8]), (9, [2, 3, 6, 7, 8]), (10, [2, 3])] (by kernel_rfl) ?_ | refine W_label ?_ | refine W_skip ?_ | refine W_exit ?_ | refine W_ret ?_ | refine end_at0 ?_) | (with_reducible refine And.intro (fun h => ?_) (fun h => ?_)) | (with_reducible refine And.intro (by omega) ?_)); (try simp only [go_sem, Nat.reduceAdd, Nat.reduceSub, Nat.reduceMul, Nat.reduceDiv, Nat.reduceMod, Nat.reducePow, Nat.reduceLT, Nat.reduceEqDiff, Nat.reduceBEq, Nat.reduceLeDiff, reduceIte, reduceCtorEq, Int.reduceLT, Int.reduceLE, Int.reduceEq, Int.reduceNe, Int.reduceNeg, Int.reduceAdd, Int.reduceSub, Int.reduceMul, Int.reduceToNat, Int.reducePow, Int.reduceDiv, Int.reduceMod, Nat.reduceSucc, encDS, hki, hz, h255, ha, Try.ntmps52, Try.results52, partS]))
          | fail)
        refine ⟨(k + 1, k, k), [], ⟨hlt, hnx⟩, by dsimp only; omega, ?_⟩
        simp [go_sem]
      · have hnx : Pt (l.take (k + 1)) a k := by
          have h2 := hpt.more (by omega) h255
          rw [← ht, hlen] at h2
          exact h2
        repeat' (first
          | (with_reducible first | refine W_seq ?_ | refine W_condT rfl ?_ | refine W_condF rfl ?_ | refine W_tf rfl (fun h => ?_) (fun h => ?_) | refine W_block ?_ | refine W_scope ?_ | refine endQ_ret ?_ | refine endQ_normal ?_)
          | ((with_reducible first | refine hK _ ?_ | refine hK _ _ ?_); clear hK K)
          | ((first | (with_reducible first | refine ops_cons (fun K hK => ?_) | refine opsd_cons (fun K hK => ?_) | refine ops_nil ?_ | refine fit_i64 (by omega) ?_ | refine fit_u8 (by omega) ?_ | refine fit_u64 (by omega) ?_ | refine fit_u32 (by omega) ?_ | refine fit_any ?_ | refine quo_nn (by omega) ?_ | refine rem_nn (by omega) ?_ | refine quo_any ?_ | refine rem_any ?_ | refine sh_in (by simp only [IntKind.bits]; omega) ?_) | ((with_reducible refine opsd_nil ?_); refine And.intro (by kernel_rfl) ?_) | with_reducible refine callV_snap ?_ | (with_reducible first | refine slice_old ?_ | refine app_grow ?_ | refine idx_map (by omega) ?_ | refine W_reg [(0, [0]), (1, [0, 2, 3]), (2, [2, 3, 6, 7, 8]), (3, [2, 3, 6, 7, 8, 9]), (4, [2, 3, 4, 5, 6, 7, 8]), (5, [2, 3, 4, 6, 7, 8, 20]), (6, [2, 4, 6, 7, 8, 22]), (7, [2, 4, 6, 7, 8]), (8, [2, 3, 6, 7, 8]), (9, [2, 3, 6, 7, 8]), (10, [2, 3])] ?_ | refine W_drw [(0, [0]), (1, [0, 2, 3]), (2, [2, 3, 6, 7, 8]), (3, [2, 3, 6, 7, 8, 9]), (4, [2, 3, 4, 5, 6, 7, 8]), (5, [2, 3, 4, 6, 7, 8, 20]), (6, [2, 4, 6, 7, 8, 22]), (7, [2, 4, 6, 7, 8]), (8, [2, 3, 6, 7, 8]), (9, [2, 3, 6, 7, 8]), (10, [2, 3])] (by kernel_rfl) ?_ | refine W_label ?_ | refine W_skip ?_ | refine W_exit ?_ | refine W_ret ?_ | refine end_at0 ?_) | (with_reducible refine And.intro (fun h => ?_) (fun h => ?_)) | (with_reducible refine And.intro (by omega) ?_)); (try simp only [go_sem, Nat.reduceAdd, Nat.reduceSub, Nat.reduceMul, Nat.reduceDiv, Nat.reduceMod, Nat.reducePow, Nat.reduceLT, Nat.reduceEqDiff, Nat.reduceBEq, Nat.reduceLeDiff, reduceIte, reduceCtorEq, Int.reduceLT, Int.reduceLE, Int.reduceEq, Int.reduceNe, Int.reduceNeg, Int.reduceAdd, Int.reduceSub, Int.reduceMul, Int.reduceToNat, Int.reducePow, Int.reduceDiv, Int.reduceMod, Nat.reduceSucc, encDS, hki, hz, h255, ha, Try.ntmps52, Try.results52, partS]))
          | fail)
        refine ⟨(k + 1, a, k), [], ⟨hlt, hnx⟩, by dsimp only; omega, ?_⟩
        simp [go_sem]
  · have hki : ¬ (k : Int) < l.length := by omega
    rw [List.take_of_length_le (by omega)] at hpt
    obtain ⟨rfl, rfl⟩ := hp.uniq hpt
    repeat' (first
      | (with_reducible first | refine W_seq ?_ | refine W_condT rfl ?_ | refine W_condF rfl ?_ | refine W_tf rfl (fun h => ?_) (fun h => ?_) | refine W_block ?_ | refine W_scope ?_ | refine endQ_ret ?_ | refine endQ_normal ?_)
      | ((with_reducible first | refine hK _ ?_ | refine hK _ _ ?_); clear hK K)
      | ((first | (with_reducible first | refine ops_cons (fun K hK => ?_) | refine opsd_cons (fun K hK => ?_) | refine ops_nil ?_ | refine fit_i64 (by omega) ?_ | refine fit_u8 (by omega) ?_ | refine fit_u64 (by omega) ?_ | refine fit_u32 (by omega) ?_ | refine fit_any ?_ | refine quo_nn (by omega) ?_ | refine rem_nn (by omega) ?_ | refine quo_any ?_ | refine rem_any ?_ | refine sh_in (by simp only [IntKind.bits]; omega) ?_) | ((with_reducible refine opsd_nil ?_); refine And.intro (by kernel_rfl) ?_) | with_reducible refine callV_snap ?_ | (with_reducible first | refine slice_old ?_ | refine app_grow ?_ | refine idx_map (by omega) ?_ | refine W_reg [(0, [0]), (1, [0, 2, 3]), (2, [2, 3, 6, 7, 8]), (3, [2, 3, 6, 7, 8, 9]), (4, [2, 3, 4, 5, 6, 7, 8]), (5, [2, 3, 4, 6, 7, 8, 20]), (6, [2, 4, 6, 7, 8, 22]), (7, [2, 4, 6, 7, 8]), (8, [2, 3, 6, 7, 8]), (9, [2, 3, 6, 7, 8]), (10, [2, 3])] ?_ | refine W_drw [(0, [0]), (1, [0, 2, 3]), (2, [2, 3, 6, 7, 8]), (3, [2, 3, 6, 7, 8, 9]), (4, [2, 3, 4, 5, 6, 7, 8]), (5, [2, 3, 4, 6, 7, 8, 20]), (6, [2, 4, 6, 7, 8, 22]), (7, [2, 4, 6, 7, 8]), (8, [2, 3, 6, 7, 8]), (9, [2, 3, 6, 7, 8]), (10, [2, 3])] (by kernel_rfl) ?_ | refine W_label ?_ | refine W_skip ?_ | refine W_exit ?_ | refine W_ret ?_ | refine end_at0 ?_) | (with_reducible refine And.intro (fun h => ?_) (fun h => ?_)) | (with_reducible refine And.intro (by omega) ?_)); (try simp only [go_sem, Nat.reduceAdd, Nat.reduceSub, Nat.reduceMul, Nat.reduceDiv, Nat.reduceMod, Nat.reducePow, Nat.reduceLT, Nat.reduceEqDiff, Nat.reduceBEq, Nat.reduceLeDiff, reduceIte, reduceCtorEq, Int.reduceLT, Int.reduceLE, Int.reduceEq, Int.reduceNe, Int.reduceNeg, Int.reduceAdd, Int.reduceSub, Int.reduceMul, Int.reduceToNat, Int.reducePow, Int.reduceDiv, Int.reduceMod, Nat.reduceSucc, hki, Try.ntmps52, Try.results52, partS]))
      | fail)

/-- an object goes from the slab j to the slab i -/
def gt (c : List (Int × Int)) (k : Nat) : Int × Int := c[k]?.getD (0, 0)
theorem gt_lt {c : List (Int × Int)} {k : Nat} (h : k < c.length) : gt c k = c[k] := by simp [gt, h]
def lastU (c : List (Int × Int)) (j : Nat) : Int := (gt c j).2 - 2 ^ (ln (gt c j).2 - 1).toNat
def mvd (c : List (Int × Int)) (i j : Nat) : List (Int × Int) := (c.set j ((gt c j).1, lastU c j)).set i ((gt c i).1, (gt c i).2 + 2 ^ (plc (gt c i).2).toNat)
def nxt (c : List (Int × Int)) (i j : Nat) : List (Int × Int) := if lastU c j = 0 then (mvd c i j).eraseIdx j else mvd c i j
def mv (c : List (Int × Int)) (i j : Nat) : Int × Int := ((gt c j).1 * 8 + (ln (gt c j).2 - 1), (gt c i).1 * 8 + plc (gt c i).2)

inductive TRun : List (Int × Int) → List (Int × Int) → List (Int × Int) → Prop
  | full {c} : Full c → TRun c c []
  | one {c i} : Lo c i → Hi c i → TRun c c []
  | step {c c' ms i j} : Lo c i → Hi c j → i < j → TRun (nxt c i j) c' ms → TRun c c' (mv c i j :: ms)

theorem lastU_bd {c : List (Int × Int)} (hv : Val c) {j : Nat} (hj : j < c.length) : 0 ≤ lastU c j ∧ lastU c j ≤ 255 := by
  obtain ⟨b0, b1, b2, b3⟩ := hv.get j hj
  obtain ⟨l0, l1, l2⟩ := ln_bd (c[j]).2 b2 b3
  have h1 := used_bd (c[j]).2 _ (by omega) b3 l0 l1 l2
  have h2 := pow8_bd _ l0 l1
  simp only [lastU, gt_lt hj]
  omega
theorem plcU_bd {c : List (Int × Int)} (hv : Val c) {i : Nat} (hi : i < c.length) (hn : (c[i]).2 ≠ 255) : 1 ≤ (c[i]).2 + 2 ^ (plc (c[i]).2).toNat ∧ (c[i]).2 + 2 ^ (plc (c[i]).2).toNat ≤ 255 := by
  obtain ⟨b0, b1, b2, b3⟩ := hv.get i hi
  obtain ⟨p0, p1⟩ := plc_bd (c[i]).2 (by omega) (by omega)
  have h1 := free_bd (c[i]).2 _ (by omega) b3 p0 p1 (plc_free _ (by omega) (by omega))
  have h2 := pow8_bd _ p0 p1
  omega
theorem frames_set (c : List (Int × Int)) (k : Nat) (u : Int) : (c.set k ((gt c k).1, u)).map (·.1) = c.map (·.1) := by
  apply List.ext_getElem?
  intro q
  simp only [List.getElem?_map, List.getElem?_set]
  by_cases h : k = q
  · subst h
    by_cases hk : k < c.length
    · simp [hk, gt]
    · simp [hk]
  · simp [h]
theorem sorted_frames {c : List (Int × Int)} : c.Pairwise (fun a b => a.1 < b.1) ↔ (c.map (·.1)).Pairwise (· < ·) := by rw [List.pairwise_map]
theorem mvd_frames (c : List (Int × Int)) (i j : Nat) (hij : i < j) : (mvd c i j).map (·.1) = c.map (·.1) := by
  have e : gt c i = gt (c.set j ((gt c j).1, lastU c j)) i := by simp [gt, List.getElem?_set, show j ≠ i by omega]
  unfold mvd
  rw [e, frames_set, frames_set]
theorem val_erase {c : List (Int × Int)} {j : Nat} (hs : (c.map (·.1)).Pairwise (· < ·)) (hb : ∀ k (h : k < c.length), k ≠ j → 0 ≤ (c[k]).1 ∧ (c[k]).1 < 256 ∧ 1 ≤ (c[k]).2 ∧ (c[k]).2 ≤ 255) : Val (c.eraseIdx j) := by
  refine ⟨(sorted_frames.2 hs).sublist (List.eraseIdx_sublist _ _), fun s hs => ?_⟩
  obtain ⟨k, hk, hne, rfl⟩ := List.mem_eraseIdx_iff_getElem.1 hs
  exact hb k hk (by omega)
theorem val_nxt {c : List (Int × Int)} (hv : Val c) {i j : Nat} (hlo : Lo c i) (hj : j < c.length) (hij : i < j) : Val (nxt c i j) := by
  obtain ⟨hi, hn, _⟩ := hlo
  obtain ⟨i0, i1, i2, i3⟩ := hv.get i hi
  obtain ⟨j0, j1, j2, j3⟩ := hv.get j hj
  have hl := lastU_bd hv hj
  have hp := plcU_bd hv hi hn
  have hfr := mvd_frames c i j hij
  have hso : ((mvd c i j).map (·.1)).Pairwise (· < ·) := by rw [hfr]; exact sorted_frames.1 hv.sorted
  have hget : ∀ k (h : k < (mvd c i j).length), k ≠ j → 0 ≤ ((mvd c i j)[k]).1 ∧ ((mvd c i j)[k]).1 < 256 ∧ 1 ≤ ((mvd c i j)[k]).2 ∧ ((mvd c i j)[k]).2 ≤ 255 := by
    intro k hk hkj
    have hkc : k < c.length := by simpa [mvd] using hk
    by_cases hki : k = i
    · subst hki
      simp only [mvd, List.getElem_set_self, gt_lt hi]
      exact ⟨i0, i1, hp.1, hp.2⟩
    · have : (mvd c i j)[k] = c[k] := by simp [mvd, List.getElem_set, Ne.symm hki, Ne.symm hkj]
      rw [this]; exact hv.get k hkc
  unfold nxt
  split
  · exact val_erase hso hget
  · rename_i hz
    refine ⟨sorted_frames.2 hso, fun s hs => ?_⟩
    obtain ⟨k, hk, rfl⟩ := List.mem_iff_getElem.1 hs
    by_cases hkj : k = j
    · subst hkj
      have : (mvd c i k)[k] = ((c[k]).1, lastU c k) := by simp [mvd, List.getElem_set, show i ≠ k by omega, gt_lt hj]
      rw [this]
      exact ⟨j0, j1, by dsimp only; omega, hl.2⟩
    · exact hget k hk hkj
theorem nxt_len (c : List (Int × Int)) (i j : Nat) : (nxt c i j).length ≤ c.length := by
  unfold nxt
  split
  · have := List.length_eraseIdx_le (mvd c i j) j
    simp [mvd] at this ⊢; omega
  · simp [mvd]
end Go.Proofs.Ytokocigmchfdfaa

/- Tidying, by the engine. -/
namespace Go.Proofs.Ytokocigmchfdfaa
open Go.RowKit
set_option maxRecDepth 100000
set_option linter.unusedSimpArgs false
set_option linter.unusedVariables false

def encDM (s : Int × Int) : List D := [.int .i64 s.1, .int .i64 s.2]
theorem flatM' {l : List (Int × Int)} : ∀ (r : List D) (x y : Int), (x, y) ∈ l → encDM (x, y) = r → ∀ z ∈ r, (match z with | D.sl rows => rows = [] | _ => True) := by
  rintro r x y _ rfl z hz
  simp only [encDM, List.mem_cons, List.not_mem_nil, or_false] at hz
  rcases hz with rfl | rfl <;> trivial
theorem Pt.of {c : List (Int × Int)} {i j : Nat} (h : Lo c i) (k : Hi c j) : Pt c i j := .inr ⟨i, j, h, k, rfl, rfl⟩

def TidyS : Spec := { rel := fun args ins res outs => ∃ (c c' ms : List (Int × Int)), c.length ≤ 1000000 ∧ Val c ∧ TRun c c' ms ∧ ms.length ≤ 1000000 ∧ args = [dS c] ∧ ins = [] ∧ res = .tup [.row 0 2 0 c'.length, .row 1 2 0 ms.length, iv 0] ∧ outs = [.rows 38 2 (c'.map encDS), .rows 57 2 (ms.map encDM)] }
theorem Tidy_at (c c' ms : List (Int × Int)) (h : c.length ≤ 1000000) (hv : Val c) (hr : TRun c c' ms) (hm : ms.length ≤ 1000000) :
    TidyS.rel [dS c] [] (.tup [.row 0 2 0 c'.length, .row 1 2 0 ms.length, iv 0]) [.rows 38 2 (c'.map encDS), .rows 57 2 (ms.map encDM)] := ⟨c, c', ms, h, hv, hr, hm, rfl, rfl, rfl, rfl⟩
set_option maxHeartbeats 4000000 in
theorem Tidy_ok : Ok Try.prog 16 TidyS := by
  refine fn_ok TidyS Try.func16 rfl rfl ?_
  rintro args ins res outs ⟨c, c', ms, hc, hv, hrun, hml, rfl, rfl, rfl, rfl⟩
  refine ⟨by simp [Try.ntmps16], fun w0 V Bo mu0 => ?_⟩
  have e0 := val_cc hv
  repeat' (first
    | (with_reducible first | refine W_seq ?_ | refine W_condT rfl ?_ | refine W_condF rfl ?_ | refine W_tf rfl (fun h => ?_) (fun h => ?_) | refine W_block ?_ | refine W_scope ?_ | refine endQ_ret ?_ | refine endQ_normal ?_)
    | ((with_reducible first | refine hK _ ?_ | refine hK _ _ ?_); clear hK K)
    | ((first | (with_reducible first | refine ops_cons (fun K hK => ?_) | refine opsd_cons (fun K hK => ?_) | refine ops_nil ?_ | refine fit_i64 (by omega) ?_ | refine fit_u8 (by omega) ?_ | refine fit_u64 (by omega) ?_ | refine fit_u32 (by omega) ?_ | refine fit_any ?_ | refine quo_nn (by omega) ?_ | refine rem_nn (by omega) ?_ | refine quo_any ?_ | refine rem_any ?_ | refine sh_in (by simp only [IntKind.bits]; omega) ?_) | ((with_reducible refine opsd_nil ?_); refine And.intro (by kernel_rfl) ?_) | with_reducible refine callV_snap ?_ | ((with_reducible refine call_go CheckS Check_ok ?_); refine ⟨(by first | exact alOk_nil _ | exact alOk_f rfl), _, _, Check_at _ hc, ?_⟩) | ((with_reducible refine call_go CloneS Clone_ok ?_); refine ⟨(by first | exact alOk_nil _ | exact alOk_f rfl), _, _, Clone_at _ hc, ?_⟩) | (with_reducible first | refine slice_old ?_ | refine app_grow ?_ | refine idx_map (by omega) ?_ | refine W_reg [(0, [0]), (1, [0, 5]), (2, [0, 5, 21]), (3, [2, 3, 4]), (4, [7]), (5, [7, 8]), (6, [7, 8, 9, 10]), (7, [7, 8, 9, 10, 32]), (8, [2, 3, 4]), (9, [7, 8, 10, 11, 12]), (10, [7, 8, 10, 11, 12, 13]), (11, [7, 8, 10, 11, 12, 13, 14]), (12, [7, 8, 10, 11, 12, 13, 14]), (13, [7, 8, 10, 11, 12, 14]), (14, [7, 8, 10, 11]), (15, [7, 8, 10, 95]), (16, [7, 8])] ?_ | refine W_drw [(0, [0]), (1, [0, 5]), (2, [0, 5, 21]), (3, [2, 3, 4]), (4, [7]), (5, [7, 8]), (6, [7, 8, 9, 10]), (7, [7, 8, 9, 10, 32]), (8, [2, 3, 4]), (9, [7, 8, 10, 11, 12]), (10, [7, 8, 10, 11, 12, 13]), (11, [7, 8, 10, 11, 12, 13, 14]), (12, [7, 8, 10, 11, 12, 13, 14]), (13, [7, 8, 10, 11, 12, 14]), (14, [7, 8, 10, 11]), (15, [7, 8, 10, 95]), (16, [7, 8])] (by kernel_rfl) ?_ | refine W_label ?_ | refine W_skip ?_ | refine W_exit ?_ | refine W_ret ?_ | refine end_at0 ?_) | (with_reducible refine And.intro (fun h => ?_) (fun h => ?_)) | (with_reducible refine And.intro (by omega) ?_)); (try simp only [go_sem, Nat.reduceAdd, Nat.reduceSub, Nat.reduceMul, Nat.reduceDiv, Nat.reduceMod, Nat.reducePow, Nat.reduceLT, Nat.reduceEqDiff, Nat.reduceBEq, Nat.reduceLeDiff, reduceIte, reduceCtorEq, Int.reduceLT, Int.reduceLE, Int.reduceEq, Int.reduceNe, Int.reduceNeg, Int.reduceAdd, Int.reduceSub, Int.reduceMul, Int.reduceToNat, Int.reducePow, Int.reduceDiv, Int.reduceMod, Nat.reduceSucc, e0, Try.ntmps16, Try.results16, TidyS]))
    | fail)
  refine W_adopt 8 57 2 (by decide) (by simp [go_sem]) ?_
  refine W_loop (fun x : List (Int × Int) × List (Int × Int) × List (Int × Int) => ⟨[(7, .row 0 2 0 x.1.length), (8, .row 1 2 0 x.2.1.length)], [some (.rows 38 2 (x.1.map encDS)), some (.rows 57 2 (x.2.1.map encDM))]⟩)
    (fun x => x.1.length ≤ 1000000 ∧ Val x.1 ∧ TRun x.1 c' x.2.2 ∧ x.2.1 ++ x.2.2 = ms) (fun x => x.2.2.length) (c, [], ms) ⟨hc, hv, hrun, rfl⟩ [0, 1] ?_ ?_
  · simp [go_sem]
  rintro ⟨d, done, rest⟩ ⟨hd, hvd, hr, hms⟩
  dsimp only at hd hvd hr hms
  cases hr with
  | full hf =>
    have hpt : Pt c' (-1) (-1) := .inl ⟨hf, rfl, rfl⟩
    rw [List.append_nil] at hms
    repeat' (first
      | (with_reducible first | refine W_seq ?_ | refine W_condT rfl ?_ | refine W_condF rfl ?_ | refine W_tf rfl (fun h => ?_) (fun h => ?_) | refine W_block ?_ | refine W_scope ?_ | refine endQ_ret ?_ | refine endQ_normal ?_)
      | ((with_reducible first | refine hK _ ?_ | refine hK _ _ ?_); clear hK K)
      | ((first | (with_reducible first | refine ops_cons (fun K hK => ?_) | refine opsd_cons (fun K hK => ?_) | refine ops_nil ?_ | refine fit_i64 (by omega) ?_ | refine fit_u8 (by omega) ?_ | refine fit_u64 (by omega) ?_ | refine fit_u32 (by omega) ?_ | refine fit_any ?_ | refine quo_nn (by omega) ?_ | refine rem_nn (by omega) ?_ | refine quo_any ?_ | refine rem_any ?_ | refine sh_in (by simp only [IntKind.bits]; omega) ?_) | ((with_reducible refine opsd_nil ?_); refine And.intro (by kernel_rfl) ?_) | with_reducible refine callV_snap ?_ | ((with_reducible refine call_go partS part_ok ?_); refine ⟨(by first | exact alOk_nil _ | exact alOk_f rfl), _, _, part_at _ _ _ hd hvd hpt, ?_⟩) | (with_reducible first | refine slice_old ?_ | refine app_grow ?_ | refine idx_map (by omega) ?_ | refine W_reg [(0, [0]), (1, [0, 5]), (2, [0, 5, 21]), (3, [2, 3, 4]), (4, [7]), (5, [7, 8]), (6, [7, 8, 9, 10]), (7, [7, 8, 9, 10, 32]), (8, [2, 3, 4]), (9, [7, 8, 10, 11, 12]), (10, [7, 8, 10, 11, 12, 13]), (11, [7, 8, 10, 11, 12, 13, 14]), (12, [7, 8, 10, 11, 12, 13, 14]), (13, [7, 8, 10, 11, 12, 14]), (14, [7, 8, 10, 11]), (15, [7, 8, 10, 95]), (16, [7, 8])] ?_ | refine W_drw [(0, [0]), (1, [0, 5]), (2, [0, 5, 21]), (3, [2, 3, 4]), (4, [7]), (5, [7, 8]), (6, [7, 8, 9, 10]), (7, [7, 8, 9, 10, 32]), (8, [2, 3, 4]), (9, [7, 8, 10, 11, 12]), (10, [7, 8, 10, 11, 12, 13]), (11, [7, 8, 10, 11, 12, 13, 14]), (12, [7, 8, 10, 11, 12, 13, 14]), (13, [7, 8, 10, 11, 12, 14]), (14, [7, 8, 10, 11]), (15, [7, 8, 10, 95]), (16, [7, 8])] (by kernel_rfl) ?_ | refine W_label ?_ | refine W_skip ?_ | refine W_exit ?_ | refine W_ret ?_ | refine end_at0 ?_) | (with_reducible refine And.intro (fun h => ?_) (fun h => ?_)) | (with_reducible refine And.intro (by omega) ?_)); (try simp only [go_sem, Nat.reduceAdd, Nat.reduceSub, Nat.reduceMul, Nat.reduceDiv, Nat.reduceMod, Nat.reducePow, Nat.reduceLT, Nat.reduceEqDiff, Nat.reduceBEq, Nat.reduceLeDiff, reduceIte, reduceCtorEq, Int.reduceLT, Int.reduceLE, Int.reduceEq, Int.reduceNe, Int.reduceNeg, Int.reduceAdd, Int.reduceSub, Int.reduceMul, Int.reduceToNat, Int.reducePow, Int.reduceDiv, Int.reduceMod, Nat.reduceSucc, Try.ntmps16, Try.results16, TidyS]))
      | fail)
    subst hms
    refine end_at [0, 1] ?_
    simp [go_sem, Try.results16, TidyS]
    exact ⟨flatS', flatM'⟩
  | one hlo hhi =>
    have hpt := Pt.of hlo hhi
    rw [List.append_nil] at hms
    repeat' (first
      | (with_reducible first | refine W_seq ?_ | refine W_condT rfl ?_ | refine W_condF rfl ?_ | refine W_tf rfl (fun h => ?_) (fun h => ?_) | refine W_block ?_ | refine W_scope ?_ | refine endQ_ret ?_ | refine endQ_normal ?_)
      | ((with_reducible first | refine hK _ ?_ | refine hK _ _ ?_); clear hK K)
      | ((first | (with_reducible first | refine ops_cons (fun K hK => ?_) | refine opsd_cons (fun K hK => ?_) | refine ops_nil ?_ | refine fit_i64 (by omega) ?_ | refine fit_u8 (by omega) ?_ | refine fit_u64 (by omega) ?_ | refine fit_u32 (by omega) ?_ | refine fit_any ?_ | refine quo_nn (by omega) ?_ | refine rem_nn (by omega) ?_ | refine quo_any ?_ | refine rem_any ?_ | refine sh_in (by simp only [IntKind.bits]; omega) ?_) | ((with_reducible refine opsd_nil ?_); refine And.intro (by kernel_rfl) ?_) | with_reducible refine callV_snap ?_ | ((with_reducible refine call_go partS part_ok ?_); refine ⟨(by first | exact alOk_nil _ | exact alOk_f rfl), _, _, part_at _ _ _ hd hvd hpt, ?_⟩) | (with_reducible first | refine slice_old ?_ | refine app_grow ?_ | refine idx_map (by omega) ?_ | refine W_reg [(0, [0]), (1, [0, 5]), (2, [0, 5, 21]), (3, [2, 3, 4]), (4, [7]), (5, [7, 8]), (6, [7, 8, 9, 10]), (7, [7, 8, 9, 10, 32]), (8, [2, 3, 4]), (9, [7, 8, 10, 11, 12]), (10, [7, 8, 10, 11, 12, 13]), (11, [7, 8, 10, 11, 12, 13, 14]), (12, [7, 8, 10, 11, 12, 13, 14]), (13, [7, 8, 10, 11, 12, 14]), (14, [7, 8, 10, 11]), (15, [7, 8, 10, 95]), (16, [7, 8])] ?_ | refine W_drw [(0, [0]), (1, [0, 5]), (2, [0, 5, 21]), (3, [2, 3, 4]), (4, [7]), (5, [7, 8]), (6, [7, 8, 9, 10]), (7, [7, 8, 9, 10, 32]), (8, [2, 3, 4]), (9, [7, 8, 10, 11, 12]), (10, [7, 8, 10, 11, 12, 13]), (11, [7, 8, 10, 11, 12, 13, 14]), (12, [7, 8, 10, 11, 12, 13, 14]), (13, [7, 8, 10, 11, 12, 14]), (14, [7, 8, 10, 11]), (15, [7, 8, 10, 95]), (16, [7, 8])] (by kernel_rfl) ?_ | refine W_label ?_ | refine W_skip ?_ | refine W_exit ?_ | refine W_ret ?_ | refine end_at0 ?_) | (with_reducible refine And.intro (fun h => ?_) (fun h => ?_)) | (with_reducible refine And.intro (by omega) ?_)); (try simp only [go_sem, Nat.reduceAdd, Nat.reduceSub, Nat.reduceMul, Nat.reduceDiv, Nat.reduceMod, Nat.reducePow, Nat.reduceLT, Nat.reduceEqDiff, Nat.reduceBEq, Nat.reduceLeDiff, reduceIte, reduceCtorEq, Int.reduceLT, Int.reduceLE, Int.reduceEq, Int.reduceNe, Int.reduceNeg, Int.reduceAdd, Int.reduceSub, Int.reduceMul, Int.reduceToNat, Int.reducePow, Int.reduceDiv, Int.reduceMod, Nat.reduceSucc, Try.ntmps16, Try.results16, TidyS]))
      | fail)
    subst hms
    refine end_at [0, 1] ?_
    simp [go_sem, Try.results16, TidyS]
    exact ⟨flatS', flatM'⟩
  | step hlo hhi hij hr' =>
    rename_i ms' i j
    have hpt := Pt.of hlo hhi
    have hij' : ¬ (i : Int) = j := by omega
    have hi := hlo.1
    have hj := hhi.1
    have hii : (i : Int) < d.length := by omega
    have hji : (j : Int) < d.length := by omega
    obtain ⟨i0, i1, i2, i3⟩ := hvd.get i hi
    obtain ⟨j0, j1, j2, j3⟩ := hvd.get j hj
    have hn : (d[i]).2 ≠ 255 := hlo.2.1
    obtain ⟨l0, l1, l2⟩ := ln_bd (d[j]).2 j2 j3
    obtain ⟨p0, p1⟩ := plc_bd (d[i]).2 (by omega) (by omega)
    have hpf := plc_free (d[i]).2 (by omega) (by omega)
    have e1 := not_u8 (d[i]).2 (by omega) i3
    have e2 : tz (255 - (d[i]).2) = plc (d[i]).2 := rfl
    have e3 := andNot_used (d[j]).2 _ (by omega) j3 l0 l1 l2
    have e4 := or_free (d[i]).2 _ (by omega) i3 p0 p1 hpf
    have w1 := pow8_bd _ l0 l1
    have w2 := pow8_bd _ p0 p1
    have hdl : done.length ≤ 1000000 := by rw [← hms] at hml; simp at hml; omega
    have g1 := set_row d j hj ((d[j]).2 - 2 ^ (ln (d[j]).2 - 1).toNat)
    have hlU : lastU d j = (d[j]).2 - 2 ^ (ln (d[j]).2 - 1).toNat := by simp only [lastU, gt_lt hj]
    rw [← hlU] at g1
    rw [← hlU] at e3
    have g3 : ∀ (h : i < (d.set j ((d[j]'hj).1, lastU d j)).length), (d.set j ((d[j]'hj).1, lastU d j))[i]'h = d[i]'hi := fun h => by simp [List.getElem_set, show j ≠ i by omega]
    have g4 : (List.map encDS (d.set j ((d[j]).1, lastU d j))).set i [.int .i64 (d[i]).1, .int .u8 ((d[i]).2 + 2 ^ (plc (d[i]).2).toNat)] = (mvd d i j).map encDS := by
      unfold mvd
      rw [List.map_set (i := i), gt_lt hi, gt_lt hj]; rfl
    have g2 : (d.set j ((d[j]).1, lastU d j)).length = d.length := by simp
    have g5 : (mvd d i j).length = d.length := by simp [mvd]
    have g6 : ∀ (h : j < (mvd d i j).length), (mvd d i j)[j]'h = ((d[j]'hj).1, lastU d j) := fun h => by simp [mvd, List.getElem_set, show i ≠ j by omega, gt_lt hj]
    have g7 : List.map encDM done ++ [[.int .i64 ((d[j]).1 * 8 + (ln (d[j]).2 - 1)), .int .i64 ((d[i]).1 * 8 + plc (d[i]).2)]] = (done ++ [mv d i j]).map encDM := by simp [mv, gt_lt hi, gt_lt hj, encDM]
    have hnl := nxt_len d i j
    have hvn := val_nxt hvd hlo hj hij
    have hlb := lastU_bd hvd hj
    by_cases hz : lastU d j = 0
    · have hnx : (mvd d i j).eraseIdx j = nxt d i j := by simp [nxt, hz]
      have hnn : (nxt d i j).length = d.length - 1 := by rw [← hnx, List.length_eraseIdx, if_pos (by omega), g5]
      rw [hz] at g1 g2 g3 g4 g6 e3
      repeat' (first
        | (with_reducible first | refine W_seq ?_ | refine W_condT rfl ?_ | refine W_condF rfl ?_ | refine W_tf rfl (fun h => ?_) (fun h => ?_) | refine W_block ?_ | refine W_scope ?_ | refine endQ_ret ?_ | refine endQ_normal ?_)
        | ((with_reducible first | refine hK _ ?_ | refine hK _ _ ?_); clear hK K)
        | ((with_reducible refine idx_map2 (by omega) ?_); simp only [go_sem, Nat.reduceAdd, Nat.reduceSub, Nat.reduceMul, Nat.reduceDiv, Nat.reduceMod, Nat.reducePow, Nat.reduceLT, Nat.reduceEqDiff, Nat.reduceBEq, Nat.reduceLeDiff, reduceIte, reduceCtorEq, Int.reduceLT, Int.reduceLE, Int.reduceEq, Int.reduceNe, Int.reduceNeg, Int.reduceAdd, Int.reduceSub, Int.reduceMul, Int.reduceToNat, Int.reducePow, Int.reduceDiv, Int.reduceMod, Nat.reduceSucc, encDS, g1, g3, g4, e4])
        | ((first | (with_reducible first | refine ops_cons (fun K hK => ?_) | refine opsd_cons (fun K hK => ?_) | refine ops_nil ?_ | refine fit_i64 (by omega) ?_ | refine fit_u8 (by omega) ?_ | refine fit_u64 (by omega) ?_ | refine fit_u32 (by omega) ?_ | refine fit_any ?_ | refine quo_nn (by omega) ?_ | refine rem_nn (by omega) ?_ | refine quo_any ?_ | refine rem_any ?_ | refine sh_in (by simp only [IntKind.bits]; omega) ?_) | ((with_reducible refine opsd_nil ?_); refine And.intro (by kernel_rfl) ?_) | ((with_reducible refine callV_lend Del2S [0] Del2_ok rfl ?_); simp only [go_sem, Nat.reduceAdd, Nat.reduceSub, Nat.reduceMul, Nat.reduceDiv, Nat.reduceMod, Nat.reducePow, Nat.reduceLT, Nat.reduceEqDiff, Nat.reduceBEq, Nat.reduceLeDiff, reduceIte, reduceCtorEq, Int.reduceLT, Int.reduceLE, Int.reduceEq, Int.reduceNe, Int.reduceNeg, Int.reduceAdd, Int.reduceSub, Int.reduceMul, Int.reduceToNat, Int.reducePow, Int.reduceDiv, Int.reduceMod, Nat.reduceSucc, encDS, hij', hii, hji, e1, e2, e3, e4, g1, g3, g4, g6, g7, hnx, DelS, Int.one_mul]; refine ⟨(by first | exact alOk_nil _ | exact alOk_f rfl), rfl, _, _, Del2_at _ j _ g5 hd hj, ?_⟩) | with_reducible refine callV_snap ?_ | ((with_reducible refine call_go partS part_ok ?_); refine ⟨(by first | exact alOk_nil _ | exact alOk_f rfl), _, _, part_at _ _ _ hd hvd hpt, ?_⟩) | ((with_reducible refine call_go ln8S ln8_ok ?_); refine ⟨(by first | exact alOk_nil _ | exact alOk_f rfl), _, _, ln8_at _ (by omega) j3, ?_⟩) | ((with_reducible refine call_go tz8S tz8_ok ?_); refine ⟨(by first | exact alOk_nil _ | exact alOk_f rfl), _, _, tz8_at _ (by omega) (by omega), ?_⟩) | (with_reducible first | refine slice_old ?_ | refine app_grow ?_ | refine idx_map (by omega) ?_ | refine W_reg [(0, [0]), (1, [0, 5]), (2, [0, 5, 21]), (3, [2, 3, 4]), (4, [7]), (5, [7, 8]), (6, [7, 8, 9, 10]), (7, [7, 8, 9, 10, 32]), (8, [2, 3, 4]), (9, [7, 8, 10, 11, 12]), (10, [7, 8, 10, 11, 12, 13]), (11, [7, 8, 10, 11, 12, 13, 14]), (12, [7, 8, 10, 11, 12, 13, 14]), (13, [7, 8, 10, 11, 12, 14]), (14, [7, 8, 10, 11]), (15, [7, 8, 10, 95]), (16, [7, 8])] ?_ | refine W_drw [(0, [0]), (1, [0, 5]), (2, [0, 5, 21]), (3, [2, 3, 4]), (4, [7]), (5, [7, 8]), (6, [7, 8, 9, 10]), (7, [7, 8, 9, 10, 32]), (8, [2, 3, 4]), (9, [7, 8, 10, 11, 12]), (10, [7, 8, 10, 11, 12, 13]), (11, [7, 8, 10, 11, 12, 13, 14]), (12, [7, 8, 10, 11, 12, 13, 14]), (13, [7, 8, 10, 11, 12, 14]), (14, [7, 8, 10, 11]), (15, [7, 8, 10, 95]), (16, [7, 8])] (by kernel_rfl) ?_ | refine W_label ?_ | refine W_skip ?_ | refine W_exit ?_ | refine W_ret ?_ | refine end_at0 ?_) | (with_reducible refine And.intro (fun h => ?_) (fun h => ?_)) | (with_reducible refine And.intro (by omega) ?_)); (try simp only [go_sem, Nat.reduceAdd, Nat.reduceSub, Nat.reduceMul, Nat.reduceDiv, Nat.reduceMod, Nat.reducePow, Nat.reduceLT, Nat.reduceEqDiff, Nat.reduceBEq, Nat.reduceLeDiff, reduceIte, reduceCtorEq, Int.reduceLT, Int.reduceLE, Int.reduceEq, Int.reduceNe, Int.reduceNeg, Int.reduceAdd, Int.reduceSub, Int.reduceMul, Int.reduceToNat, Int.reducePow, Int.reduceDiv, Int.reduceMod, Nat.reduceSucc, encDS, hij', hii, hji, e1, e2, e3, e4, g1, g3, g4, g6, g7, hnx, DelS, Int.one_mul, Del2S, Try.ntmps16, Try.results16, TidyS]))
        | fail)
      refine ⟨(nxt d i j, done ++ [mv d i j], ms'), [0, 3], ⟨by dsimp only; omega, hvn, hr', by simpa using hms⟩, by simp, ?_⟩
      simp [go_sem, hnn]
    · have hnx : nxt d i j = mvd d i j := by simp [nxt, hz]
      repeat' (first
        | (with_reducible first | refine W_seq ?_ | refine W_condT rfl ?_ | refine W_condF rfl ?_ | refine W_tf rfl (fun h => ?_) (fun h => ?_) | refine W_block ?_ | refine W_scope ?_ | refine endQ_ret ?_ | refine endQ_normal ?_)
        | ((with_reducible first | refine hK _ ?_ | refine hK _ _ ?_); clear hK K)
        | ((with_reducible refine idx_map2 (by omega) ?_); simp only [go_sem, Nat.reduceAdd, Nat.reduceSub, Nat.reduceMul, Nat.reduceDiv, Nat.reduceMod, Nat.reducePow, Nat.reduceLT, Nat.reduceEqDiff, Nat.reduceBEq, Nat.reduceLeDiff, reduceIte, reduceCtorEq, Int.reduceLT, Int.reduceLE, Int.reduceEq, Int.reduceNe, Int.reduceNeg, Int.reduceAdd, Int.reduceSub, Int.reduceMul, Int.reduceToNat, Int.reducePow, Int.reduceDiv, Int.reduceMod, Nat.reduceSucc, encDS, g1, g3, g4, e4])
        | ((first | (with_reducible first | refine ops_cons (fun K hK => ?_) | refine opsd_cons (fun K hK => ?_) | refine ops_nil ?_ | refine fit_i64 (by omega) ?_ | refine fit_u8 (by omega) ?_ | refine fit_u64 (by omega) ?_ | refine fit_u32 (by omega) ?_ | refine fit_any ?_ | refine quo_nn (by omega) ?_ | refine rem_nn (by omega) ?_ | refine quo_any ?_ | refine rem_any ?_ | refine sh_in (by simp only [IntKind.bits]; omega) ?_) | ((with_reducible refine opsd_nil ?_); refine And.intro (by kernel_rfl) ?_) | with_reducible refine callV_snap ?_ | ((with_reducible refine call_go partS part_ok ?_); refine ⟨(by first | exact alOk_nil _ | exact alOk_f rfl), _, _, part_at _ _ _ hd hvd hpt, ?_⟩) | ((with_reducible refine call_go ln8S ln8_ok ?_); refine ⟨(by first | exact alOk_nil _ | exact alOk_f rfl), _, _, ln8_at _ (by omega) j3, ?_⟩) | ((with_reducible refine call_go tz8S tz8_ok ?_); refine ⟨(by first | exact alOk_nil _ | exact alOk_f rfl), _, _, tz8_at _ (by omega) (by omega), ?_⟩) | (with_reducible first | refine slice_old ?_ | refine app_grow ?_ | refine idx_map (by omega) ?_ | refine W_reg [(0, [0]), (1, [0, 5]), (2, [0, 5, 21]), (3, [2, 3, 4]), (4, [7]), (5, [7, 8]), (6, [7, 8, 9, 10]), (7, [7, 8, 9, 10, 32]), (8, [2, 3, 4]), (9, [7, 8, 10, 11, 12]), (10, [7, 8, 10, 11, 12, 13]), (11, [7, 8, 10, 11, 12, 13, 14]), (12, [7, 8, 10, 11, 12, 13, 14]), (13, [7, 8, 10, 11, 12, 14]), (14, [7, 8, 10, 11]), (15, [7, 8, 10, 95]), (16, [7, 8])] ?_ | refine W_drw [(0, [0]), (1, [0, 5]), (2, [0, 5, 21]), (3, [2, 3, 4]), (4, [7]), (5, [7, 8]), (6, [7, 8, 9, 10]), (7, [7, 8, 9, 10, 32]), (8, [2, 3, 4]), (9, [7, 8, 10, 11, 12]), (10, [7, 8, 10, 11, 12, 13]), (11, [7, 8, 10, 11, 12, 13, 14]), (12, [7, 8, 10, 11, 12, 13, 14]), (13, [7, 8, 10, 11, 12, 14]), (14, [7, 8, 10, 11]), (15, [7, 8, 10, 95]), (16, [7, 8])] (by kernel_rfl) ?_ | refine W_label ?_ | refine W_skip ?_ | refine W_exit ?_ | refine W_ret ?_ | refine end_at0 ?_) | (with_reducible refine And.intro (fun h => ?_) (fun h => ?_)) | (with_reducible refine And.intro (by omega) ?_)); (try simp only [go_sem, Nat.reduceAdd, Nat.reduceSub, Nat.reduceMul, Nat.reduceDiv, Nat.reduceMod, Nat.reducePow, Nat.reduceLT, Nat.reduceEqDiff, Nat.reduceBEq, Nat.reduceLeDiff, reduceIte, reduceCtorEq, Int.reduceLT, Int.reduceLE, Int.reduceEq, Int.reduceNe, Int.reduceNeg, Int.reduceAdd, Int.reduceSub, Int.reduceMul, Int.reduceToNat, Int.reducePow, Int.reduceDiv, Int.reduceMod, Nat.reduceSucc, encDS, hij', hii, hji, e1, e2, e3, e4, g1, g3, g4, g6, g7, hz, Int.one_mul, Try.ntmps16, Try.results16, TidyS]))
        | fail)
      refine ⟨(nxt d i j, done ++ [mv d i j], ms'), [0, 3], ⟨by dsimp only; omega, hvn, hr', by simpa using hms⟩, by simp, ?_⟩
      rw [hnx]
      simp [go_sem, g5]
end Go.Proofs.Ytokocigmchfdfaa
