/- The specification's Alloc; buddy.New; buddy.Counts; by the engine. -/
import Derived.Test.YtniiaaagammebaaBdT
namespace Go.Proofs.Ytniiaaagammebaa
open Go.RowKit
set_option maxRecDepth 100000
set_option linter.unusedSimpArgs false
set_option linter.unusedVariables false

abbrev lv12BdU : List (Nat × List Nat) := [(0, [1, 2, 4]), (1, [1, 2, 4, 7]), (2, [1, 2, 4, 7, 16]), (3, [4, 5, 6]), (4, [1, 2, 4, 8]), (5, [1, 2, 4, 8, 9]), (6, [1, 2, 4, 8, 9, 23]), (7, [1, 2, 4, 8, 9]), (8, [1, 2, 4, 8, 9, 52]), (9, [1, 2, 4, 8, 9]), (10, [1, 2, 4, 8, 55]), (11, [4, 5, 6]), (12, [1, 2, 4, 10]), (13, [4, 7, 10, 11]), (14, [4, 5, 6])]
abbrev rTakeYS : Spec := TakeS
theorem rTakeY_ok : Ok Try.prog 17 rTakeYS := rTake_ok
theorem rTakeY_at (N : Nat) (m : List Bl) (w k : Nat) (h : Vb N m w k) (ha : Allfr m w k) : rTakeYS.rel [.agg [iv N, dN m], iv w, iv k] [] (.tup [.agg [iv N, .row 0 2 0 (bld N (frA m w k)).length], iv 0]) [.rows 50 2 ((bld N (frA m w k)).map encN)] := .inr (.inr ⟨N, m, w, k, h, ha, rfl, rfl, rfl, rfl⟩)
theorem Best.vb {N : Nat} {m : List Bl} {k : Nat} {b : Bl} (hv : Vz N m) (h : Best m k b) : Vb N m b.1 k ∧ Allfr m b.1 k := by
  obtain ⟨o1, o2, o3⟩ := hv.v.ok b h.mem
  have hle := Nat.pow_le_pow_right (n := 2) (by decide) h.le
  have hb : Vb N m b.1 k := ⟨hv, by have := h.le; dsimp only; omega, by dsimp only; omega, al_down o3 h.le⟩
  exact ⟨hb, (allfr_iff hb).2 ⟨b, h.mem, tkP_iff.2 ⟨Nat.le_refl _, by omega⟩⟩⟩
theorem Best.eq {m : List Bl} {k : Nat} {a b : Bl} (ha : Best m k a) (hb : Best m k b) : a = b := by
  have h1 := ha.ord b hb.mem hb.le
  have h2 := hb.ord a ha.mem ha.le
  have h3 : a.2 = b.2 := by omega
  have h4 := ha.fst b hb.mem h3.symm
  have h5 := hb.fst a ha.mem h3
  exact Prod.ext (by omega) h3
def qv : Option Nat → Int
  | none => -1
  | some p => (p : Int)
/-- the best block of the first i -/
def BestI (m : List Bl) (k i : Nat) : Option Nat → Prop
  | none => ∀ j (h : j < m.length), j < i → (m[j]).2 < k
  | some p => ∃ hp : p < m.length, p < i ∧ k ≤ (m[p]).2 ∧ (∀ j (h : j < m.length), j < i → k ≤ (m[j]).2 → (m[p]).2 ≤ (m[j]).2) ∧ (∀ j (h : j < m.length), j < p → k ≤ (m[j]).2 → (m[p]).2 < (m[j]).2)
theorem BestI.best {N : Nat} {m : List Bl} {k p : Nat} (hv : Vn N m) (h : BestI m k m.length (some p)) : ∃ hp : p < m.length, Best m k m[p] := by
  obtain ⟨hp, h1, h2, h3, h4⟩ := h
  refine ⟨hp, List.getElem_mem hp, h2, fun c hc hk => ?_, fun c hc he => ?_⟩
  · obtain ⟨j, hj, rfl⟩ := List.getElem_of_mem hc
    exact h3 j hj hj hk
  · obtain ⟨j, hj, rfl⟩ := List.getElem_of_mem hc
    have hasc := List.pairwise_iff_getElem.1 hv.asc
    rcases Nat.lt_trichotomy j p with hh | hh | hh
    · have := h4 j hj hh (by omega); omega
    · subst hh; exact Nat.le_refl _
    · have := hasc p j hp hj hh
      have := two_pos (m[p]).2
      omega
set_option maxHeartbeats 8000000 in
theorem rAlloc_ok : Ok Try.prog 12 AllocS := by
  refine fn_ok AllocS Try.func12 rfl rfl ?_
  intro args ins res outs hrel
  refine ⟨?_, ?_⟩
  · rcases hrel with ⟨n, l, k, hl, hc, rfl, rfl, rfl, rfl⟩ | ⟨N, m, k, hv, hk, hno, rfl, rfl, rfl, rfl⟩ | ⟨N, m, k, b, hv, hk, hb, rfl, rfl, rfl, rfl⟩ <;> simp [Try.ntmps12]
  intro w0 V Bo mu0
  rcases hrel with ⟨n, l, k, hl, hc, rfl, rfl, rfl, rfl⟩ | hrel
  · skip
    repeat' (first
      | (with_reducible first | refine W_seq ?_ | refine W_condT rfl ?_ | refine W_condF rfl ?_ | refine W_tf rfl (fun h => ?_) (fun h => ?_) | refine W_block ?_ | refine W_scope ?_ | refine endQ_ret ?_ | refine endQ_normal ?_)
      | ((with_reducible first | refine hK _ ?_ | refine hK _ _ ?_); clear hK K)
      | ((first | (with_reducible first | refine ops_cons (fun K hK => ?_) | refine opsd_cons (fun K hK => ?_) | refine ops_nil ?_ | refine fit_i64 (by omega) ?_ | refine fit_u8 (by omega) ?_ | refine fit_u64 (by omega) ?_ | refine fit_u32 (by omega) ?_ | refine fit_any ?_ | refine quo_nn (by omega) ?_ | refine rem_nn (by omega) ?_ | refine quo_any ?_ | refine rem_any ?_ | refine sh_in (by simp only [IntKind.bits]; omega) ?_) | ((with_reducible refine opsd_nil ?_); refine And.intro (by kernel_rfl) ?_) | with_reducible refine callV_snap ?_ | ((with_reducible refine call_go rasksS rasks_ok ?_); refine ⟨(by first | exact alOk_nil _ | exact alOk_f rfl), _, _, rasks_at _ _ _ hl, ?_⟩) | (with_reducible first | refine slice_old ?_ | refine app_grow ?_ | refine idx_map (by omega) ?_ | refine W_reg lv12BdU ?_ | refine W_drw lv12BdU (by kernel_rfl) ?_ | refine W_label ?_ | refine W_skip ?_ | refine W_exit ?_ | refine W_ret ?_ | refine end_at0 ?_) | (with_reducible refine And.intro (fun h => ?_) (fun h => ?_)) | (with_reducible refine And.intro (by omega) ?_)); (try simp only [go_sem, seval, reduceCtorEq, hc, lv12BdU, Try.ntmps12, Try.results12, AllocS]))
      | fail)
  have key : ∃ (N : Nat) (m : List Bl) (k : Nat), Vz N m ∧ k ≤ 6 ∧ args = [.agg [iv N, dN m], iv k] ∧ ins = [] ∧ ((∀ c ∈ m, c.2 < k) ∧ res = .tup [.agg [iv 0, .nil], iv 0, iv 5] ∧ outs = [] ∨
      ∃ b, Best m k b ∧ res = .tup [.agg [iv N, .row 0 2 0 (bld N (frA m b.1 k)).length], iv b.1, iv 0] ∧ outs = [.rows 50 2 ((bld N (frA m b.1 k)).map encN)]) := by
    rcases hrel with ⟨N, m, k, hv, hk, hno, rfl, rfl, rfl, rfl⟩ | ⟨N, m, k, b, hv, hk, hb, rfl, rfl, rfl, rfl⟩
    · exact ⟨N, m, k, hv, hk, rfl, rfl, .inl ⟨hno, rfl, rfl⟩⟩
    · exact ⟨N, m, k, hv, hk, rfl, rfl, .inr ⟨b, hb, rfl, rfl⟩⟩
  clear hrel
  obtain ⟨N, m, k, hv, hk, rfl, rfl, hout⟩ := key
  have hlen := hv.v.len
  repeat' (first
    | (with_reducible first | refine W_seq ?_ | refine W_condT rfl ?_ | refine W_condF rfl ?_ | refine W_tf rfl (fun h => ?_) (fun h => ?_) | refine W_block ?_ | refine W_scope ?_ | refine endQ_ret ?_ | refine endQ_normal ?_)
    | ((with_reducible first | refine hK _ ?_ | refine hK _ _ ?_); clear hK K)
    | ((first | (with_reducible first | refine ops_cons (fun K hK => ?_) | refine opsd_cons (fun K hK => ?_) | refine ops_nil ?_ | refine fit_i64 (by omega) ?_ | refine fit_u8 (by omega) ?_ | refine fit_u64 (by omega) ?_ | refine fit_u32 (by omega) ?_ | refine fit_any ?_ | refine quo_nn (by omega) ?_ | refine rem_nn (by omega) ?_ | refine quo_any ?_ | refine rem_any ?_ | refine sh_in (by simp only [IntKind.bits]; omega) ?_) | ((with_reducible refine opsd_nil ?_); refine And.intro (by kernel_rfl) ?_) | with_reducible refine callV_snap ?_ | ((with_reducible refine call_go rasksVS rasksV_ok ?_); refine ⟨(by first | exact alOk_nil _ | exact alOk_f rfl), _, _, rasksV_at _ _ _ hv hk, ?_⟩) | (with_reducible first | refine slice_old ?_ | refine app_grow ?_ | refine idx_map (by omega) ?_ | refine W_reg lv12BdU ?_ | refine W_drw lv12BdU (by kernel_rfl) ?_ | refine W_label ?_ | refine W_skip ?_ | refine W_exit ?_ | refine W_ret ?_ | refine end_at0 ?_) | (with_reducible refine And.intro (fun h => ?_) (fun h => ?_)) | (with_reducible refine And.intro (by omega) ?_)); (try simp only [go_sem, seval, reduceCtorEq, lv12BdU, Try.ntmps12, Try.results12, AllocS]))
    | fail)
  refine W_loop (fun x : Nat × Option Nat => ⟨[(1, iv k), (2, .ptr 0 0), (4, .ptr 1 0), (8, iv (qv x.2)), (9, iv x.1)], [some (.box 24 [iv N, dN m]), some (.box 24 [iv 0, .nil])]⟩) (fun x => x.1 ≤ m.length ∧ BestI m k x.1 x.2) (fun x => m.length - x.1) (0, none) ⟨Nat.zero_le _, fun j _ h => by dsimp only at h; omega⟩ [0, 1] ?_ ?_
  · simp [go_sem, qv]
  rintro ⟨i, q⟩ ⟨hi, hq⟩
  dsimp only at hi hq
  by_cases hlt : i < m.length
  · have hki : (i : Int) < m.length := by omega
    by_cases c1 : k ≤ (m[i]).2
    case neg =>
      have d1 : ¬ (k : Int) ≤ ((m[i]).2 : Int) := by omega
      repeat' (first
        | (with_reducible first | refine W_seq ?_ | refine W_condT rfl ?_ | refine W_condF rfl ?_ | refine W_tf rfl (fun h => ?_) (fun h => ?_) | refine W_block ?_ | refine W_scope ?_ | refine endQ_ret ?_ | refine endQ_normal ?_)
        | ((with_reducible first | refine hK _ ?_ | refine hK _ _ ?_); clear hK K)
        | ((first | (with_reducible first | refine ops_cons (fun K hK => ?_) | refine opsd_cons (fun K hK => ?_) | refine ops_nil ?_ | refine fit_i64 (by omega) ?_ | refine fit_u8 (by omega) ?_ | refine fit_u64 (by omega) ?_ | refine fit_u32 (by omega) ?_ | refine fit_any ?_ | refine quo_nn (by omega) ?_ | refine rem_nn (by omega) ?_ | refine quo_any ?_ | refine rem_any ?_ | refine sh_in (by simp only [IntKind.bits]; omega) ?_) | ((with_reducible refine opsd_nil ?_); refine And.intro (by kernel_rfl) ?_) | with_reducible refine callV_snap ?_ | (with_reducible first | refine slice_old ?_ | refine app_grow ?_ | refine idx_map (by omega) ?_ | refine W_reg lv12BdU ?_ | refine W_drw lv12BdU (by kernel_rfl) ?_ | refine W_label ?_ | refine W_skip ?_ | refine W_exit ?_ | refine W_ret ?_ | refine end_at0 ?_) | (with_reducible refine And.intro (fun h => ?_) (fun h => ?_)) | (with_reducible refine And.intro (by omega) ?_)); (try simp only [go_sem, seval, reduceCtorEq, hki, encN, d1, lv12BdU, Try.ntmps12, Try.results12, AllocS]))
        | fail)
      refine ⟨(i + 1, q), [0, 1], ⟨hlt, ?_⟩, by dsimp only; omega, ?_⟩
      · dsimp only
        cases q with
        | none =>
          intro j hj hji
          rcases Nat.lt_or_ge j i with h | h
          · exact hq j hj h
          · obtain rfl : j = i := by omega
            omega
        | some p =>
          obtain ⟨hp, h1, h2, h3, h4⟩ := hq
          refine ⟨hp, by omega, h2, fun j hj hji hk2 => ?_, h4⟩
          rcases Nat.lt_or_ge j i with h | h
          · exact h3 j hj h hk2
          · obtain rfl : j = i := by omega
            omega
      · simp [go_sem]
    have d1 : (k : Int) ≤ ((m[i]).2 : Int) := by omega
    cases q with
    | none =>
      have hqv : qv none = -1 := rfl
      repeat' (first
        | (with_reducible first | refine W_seq ?_ | refine W_condT rfl ?_ | refine W_condF rfl ?_ | refine W_tf rfl (fun h => ?_) (fun h => ?_) | refine W_block ?_ | refine W_scope ?_ | refine endQ_ret ?_ | refine endQ_normal ?_)
        | ((with_reducible first | refine hK _ ?_ | refine hK _ _ ?_); clear hK K)
        | ((first | (with_reducible first | refine ops_cons (fun K hK => ?_) | refine opsd_cons (fun K hK => ?_) | refine ops_nil ?_ | refine fit_i64 (by omega) ?_ | refine fit_u8 (by omega) ?_ | refine fit_u64 (by omega) ?_ | refine fit_u32 (by omega) ?_ | refine fit_any ?_ | refine quo_nn (by omega) ?_ | refine rem_nn (by omega) ?_ | refine quo_any ?_ | refine rem_any ?_ | refine sh_in (by simp only [IntKind.bits]; omega) ?_) | ((with_reducible refine opsd_nil ?_); refine And.intro (by kernel_rfl) ?_) | with_reducible refine callV_snap ?_ | (with_reducible first | refine slice_old ?_ | refine app_grow ?_ | refine idx_map (by omega) ?_ | refine W_reg lv12BdU ?_ | refine W_drw lv12BdU (by kernel_rfl) ?_ | refine W_label ?_ | refine W_skip ?_ | refine W_exit ?_ | refine W_ret ?_ | refine end_at0 ?_) | (with_reducible refine And.intro (fun h => ?_) (fun h => ?_)) | (with_reducible refine And.intro (by omega) ?_)); (try simp only [go_sem, seval, reduceCtorEq, hki, encN, d1, hqv, lv12BdU, Try.ntmps12, Try.results12, AllocS]))
        | fail)
      refine ⟨(i + 1, some i), [0, 1], ⟨hlt, hlt, by omega, c1, fun j hj hji hk2 => ?_, fun j hj hji hk2 => ?_⟩, by dsimp only; omega, ?_⟩
      · rcases Nat.lt_or_ge j i with h | h
        · have := hq j hj h; omega
        · obtain rfl : j = i := by omega
          exact Nat.le_refl _
      · have := hq j hj hji; omega
      · simp [go_sem, qv]
    | some p =>
      obtain ⟨hp, h1, h2, h3, h4⟩ := hq
      have hqv : qv (some p) = (p : Int) := rfl
      have hp0 : ¬ (p : Int) < 0 := by omega
      have hpl : (p : Int) < m.length := by omega
      by_cases c2 : (m[i]).2 < (m[p]).2
      · have d2 : ((m[i]).2 : Int) < ((m[p]).2 : Int) := by omega
        repeat' (first
          | (with_reducible first | refine W_seq ?_ | refine W_condT rfl ?_ | refine W_condF rfl ?_ | refine W_tf rfl (fun h => ?_) (fun h => ?_) | refine W_block ?_ | refine W_scope ?_ | refine endQ_ret ?_ | refine endQ_normal ?_)
          | ((with_reducible first | refine hK _ ?_ | refine hK _ _ ?_); clear hK K)
          | ((first | (with_reducible first | refine ops_cons (fun K hK => ?_) | refine opsd_cons (fun K hK => ?_) | refine ops_nil ?_ | refine fit_i64 (by omega) ?_ | refine fit_u8 (by omega) ?_ | refine fit_u64 (by omega) ?_ | refine fit_u32 (by omega) ?_ | refine fit_any ?_ | refine quo_nn (by omega) ?_ | refine rem_nn (by omega) ?_ | refine quo_any ?_ | refine rem_any ?_ | refine sh_in (by simp only [IntKind.bits]; omega) ?_) | ((with_reducible refine opsd_nil ?_); refine And.intro (by kernel_rfl) ?_) | with_reducible refine callV_snap ?_ | (with_reducible first | refine slice_old ?_ | refine app_grow ?_ | refine idx_map (by omega) ?_ | refine W_reg lv12BdU ?_ | refine W_drw lv12BdU (by kernel_rfl) ?_ | refine W_label ?_ | refine W_skip ?_ | refine W_exit ?_ | refine W_ret ?_ | refine end_at0 ?_) | (with_reducible refine And.intro (fun h => ?_) (fun h => ?_)) | (with_reducible refine And.intro (by omega) ?_)); (try simp only [go_sem, seval, reduceCtorEq, hki, encN, d1, hqv, hp0, hpl, d2, lv12BdU, Try.ntmps12, Try.results12, AllocS]))
          | fail)
        refine ⟨(i + 1, some i), [0, 1], ⟨hlt, hlt, by omega, c1, fun j hj hji hk2 => ?_, fun j hj hji hk2 => ?_⟩, by dsimp only; omega, ?_⟩
        · rcases Nat.lt_or_ge j i with h | h
          · have := h3 j hj h hk2; omega
          · obtain rfl : j = i := by omega
            exact Nat.le_refl _
        · have := h3 j hj hji hk2; omega
        · simp [go_sem, qv]
      · have d2 : ¬ ((m[i]).2 : Int) < ((m[p]).2 : Int) := by omega
        repeat' (first
          | (with_reducible first | refine W_seq ?_ | refine W_condT rfl ?_ | refine W_condF rfl ?_ | refine W_tf rfl (fun h => ?_) (fun h => ?_) | refine W_block ?_ | refine W_scope ?_ | refine endQ_ret ?_ | refine endQ_normal ?_)
          | ((with_reducible first | refine hK _ ?_ | refine hK _ _ ?_); clear hK K)
          | ((first | (with_reducible first | refine ops_cons (fun K hK => ?_) | refine opsd_cons (fun K hK => ?_) | refine ops_nil ?_ | refine fit_i64 (by omega) ?_ | refine fit_u8 (by omega) ?_ | refine fit_u64 (by omega) ?_ | refine fit_u32 (by omega) ?_ | refine fit_any ?_ | refine quo_nn (by omega) ?_ | refine rem_nn (by omega) ?_ | refine quo_any ?_ | refine rem_any ?_ | refine sh_in (by simp only [IntKind.bits]; omega) ?_) | ((with_reducible refine opsd_nil ?_); refine And.intro (by kernel_rfl) ?_) | with_reducible refine callV_snap ?_ | (with_reducible first | refine slice_old ?_ | refine app_grow ?_ | refine idx_map (by omega) ?_ | refine W_reg lv12BdU ?_ | refine W_drw lv12BdU (by kernel_rfl) ?_ | refine W_label ?_ | refine W_skip ?_ | refine W_exit ?_ | refine W_ret ?_ | refine end_at0 ?_) | (with_reducible refine And.intro (fun h => ?_) (fun h => ?_)) | (with_reducible refine And.intro (by omega) ?_)); (try simp only [go_sem, seval, reduceCtorEq, hki, encN, d1, hqv, hp0, hpl, d2, lv12BdU, Try.ntmps12, Try.results12, AllocS]))
          | fail)
        refine ⟨(i + 1, some p), [0, 1], ⟨hlt, hp, by omega, h2, fun j hj hji hk2 => ?_, h4⟩, by dsimp only; omega, ?_⟩
        · rcases Nat.lt_or_ge j i with h | h
          · exact h3 j hj h hk2
          · obtain rfl : j = i := by omega
            omega
        · simp [go_sem, qv]
  · have hki : ¬ (i : Int) < m.length := by omega
    obtain rfl : i = m.length := by omega
    cases q with
    | none =>
      have hall : ∀ c ∈ m, c.2 < k := by
        intro c hc
        obtain ⟨j, hj, rfl⟩ := List.getElem_of_mem hc
        exact hq j hj hj
      have hqv : qv none = -1 := rfl
      rcases hout with ⟨_, rfl, rfl⟩ | ⟨b, hb, rfl, rfl⟩
      · skip
        repeat' (first
          | (with_reducible first | refine W_seq ?_ | refine W_condT rfl ?_ | refine W_condF rfl ?_ | refine W_tf rfl (fun h => ?_) (fun h => ?_) | refine W_block ?_ | refine W_scope ?_ | refine endQ_ret ?_ | refine endQ_normal ?_)
          | ((with_reducible first | refine hK _ ?_ | refine hK _ _ ?_); clear hK K)
          | ((first | (with_reducible first | refine ops_cons (fun K hK => ?_) | refine opsd_cons (fun K hK => ?_) | refine ops_nil ?_ | refine fit_i64 (by omega) ?_ | refine fit_u8 (by omega) ?_ | refine fit_u64 (by omega) ?_ | refine fit_u32 (by omega) ?_ | refine fit_any ?_ | refine quo_nn (by omega) ?_ | refine rem_nn (by omega) ?_ | refine quo_any ?_ | refine rem_any ?_ | refine sh_in (by simp only [IntKind.bits]; omega) ?_) | ((with_reducible refine opsd_nil ?_); refine And.intro (by kernel_rfl) ?_) | with_reducible refine callV_snap ?_ | (with_reducible first | refine slice_old ?_ | refine app_grow ?_ | refine idx_map (by omega) ?_ | refine W_reg lv12BdU ?_ | refine W_drw lv12BdU (by kernel_rfl) ?_ | refine W_label ?_ | refine W_skip ?_ | refine W_exit ?_ | refine W_ret ?_ | refine end_at0 ?_) | (with_reducible refine And.intro (fun h => ?_) (fun h => ?_)) | (with_reducible refine And.intro (by omega) ?_)); (try simp only [go_sem, seval, reduceCtorEq, hki, hqv, lv12BdU, Try.ntmps12, Try.results12, AllocS]))
          | fail)
      · have := hall b hb.mem; have := hb.le; omega
    | some p =>
      obtain ⟨hp, hbp⟩ := BestI.best hv.v hq
      have hqv : qv (some p) = (p : Int) := rfl
      have hp0 : ¬ (p : Int) < 0 := by omega
      have hpl : (p : Int) < m.length := by omega
      rcases hout with ⟨hall, rfl, rfl⟩ | ⟨b, hb, rfl, rfl⟩
      · exact absurd (hall _ hbp.mem) (by have := hbp.le; omega)
      have hbe : m[p] = b := hbp.eq hb
      have hb0 : encN b = [.int .i64 (b.1 : Int), .int .i64 (b.2 : Int)] := rfl
      obtain ⟨v1, v2⟩ := hb.vb hv
      repeat' (first
        | (with_reducible first | refine W_seq ?_ | refine W_condT rfl ?_ | refine W_condF rfl ?_ | refine W_tf rfl (fun h => ?_) (fun h => ?_) | refine W_block ?_ | refine W_scope ?_ | refine endQ_ret ?_ | refine endQ_normal ?_)
        | ((with_reducible first | refine hK _ ?_ | refine hK _ _ ?_); clear hK K)
        | ((first | (with_reducible first | refine ops_cons (fun K hK => ?_) | refine opsd_cons (fun K hK => ?_) | refine ops_nil ?_ | refine fit_i64 (by omega) ?_ | refine fit_u8 (by omega) ?_ | refine fit_u64 (by omega) ?_ | refine fit_u32 (by omega) ?_ | refine fit_any ?_ | refine quo_nn (by omega) ?_ | refine rem_nn (by omega) ?_ | refine quo_any ?_ | refine rem_any ?_ | refine sh_in (by simp only [IntKind.bits]; omega) ?_) | ((with_reducible refine opsd_nil ?_); refine And.intro (by kernel_rfl) ?_) | with_reducible refine callV_snap ?_ | ((with_reducible refine call_go rTakeYS rTakeY_ok ?_); refine ⟨(by first | exact alOk_nil _ | exact alOk_f rfl), _, _, rTakeY_at _ _ _ _ v1 v2, ?_⟩) | (with_reducible first | refine slice_old ?_ | refine app_grow ?_ | refine idx_map (by omega) ?_ | refine W_reg lv12BdU ?_ | refine W_drw lv12BdU (by kernel_rfl) ?_ | refine W_label ?_ | refine W_skip ?_ | refine W_exit ?_ | refine end_at0 ?_) | (with_reducible refine And.intro (fun h => ?_) (fun h => ?_)) | (with_reducible refine And.intro (by omega) ?_)); (try simp only [go_sem, seval, reduceCtorEq, hki, hqv, hp0, hpl, hbe, hb0, lv12BdU, Try.ntmps12, Try.results12, AllocS]))
        | fail)
      refine W_ret (endQ_ret (end_at [2] ?_))
      simp [go_sem, Try.results12, AllocS]
      simpa [flatD, encN] using encNe.flat (bld N (frA m b.1 k))
end Go.Proofs.Ytniiaaagammebaa
