/- The shelf by the engine: list. -/
import Derived.Test.YtacfipmigkbncaaBdD
import Derived.Test.YtacfipmigkbncaaBdE
namespace Go.Proofs.Ytacfipmigkbncaa
open Go.RowKit
set_option maxRecDepth 100000
set_option linter.unusedSimpArgs false
set_option linter.unusedVariables false

abbrev lv83BdI : List (Nat × List Nat) := [(0, [0]), (1, [0, 3]), (2, [3, 8, 10]), (3, [3, 8, 10, 11]), (4, [3, 4, 5, 8, 10]), (5, [3, 4, 8, 10, 16, 17, 18]), (6, [3, 4, 8, 10, 16, 17, 18, 19]), (7, [3, 4, 7, 8, 10, 16, 17, 18]), (8, [3, 4, 8, 10, 16, 17, 18]), (9, [3, 4, 8, 10, 16, 17, 18]), (10, [3, 8, 10]), (11, [3]), (12, [2])]
/-- the blocks of a shelf, order by order -/
def bagTo (L : Shf) : Nat → List Bl
  | 0 => []
  | k + 1 => bagTo L k ++ (L k).map fun x => (x, k)
theorem bagTo_len {L : Shf} (h : Sh L) : ∀ k, (bagTo L k).length ≤ 256 * k
  | 0 => by simp [bagTo]
  | k + 1 => by have := bagTo_len h k; have := h.len k; simp [bagTo]; omega
theorem bagTo_mem {L : Shf} : ∀ (k : Nat) (b : Bl), b ∈ bagTo L k ↔ b.2 < k ∧ b.1 ∈ L b.2
  | 0, b => by simp [bagTo]
  | k + 1, b => by
    rw [bagTo, List.mem_append, bagTo_mem k b, List.mem_map]
    constructor
    · rintro (⟨h1, h2⟩ | ⟨x, hx, rfl⟩)
      · exact ⟨by omega, h2⟩
      · exact ⟨by simp, hx⟩
    · rintro ⟨h1, h2⟩
      by_cases h : b.2 < k
      · exact .inl ⟨h, h2⟩
      · have : b.2 = k := by omega
        exact .inr ⟨b.1, this ▸ h2, by rw [← this]⟩
theorem bagTo_rng {L : Shf} (h : Sh L) (b : Bl) (hb : b ∈ bagTo L 7) : b.1 < 256 ∧ b.2 ≤ 6 := by
  obtain ⟨h1, h2⟩ := (bagTo_mem 7 b).1 hb
  exact ⟨h.lt _ _ h2, by omega⟩

def listS : Spec := { rel := fun args ins res outs => ∃ (L : Shf) (m : List Bl), Sh L ∧ m.Perm (bagTo L 7) ∧ m.Pairwise (fun a b => a.1 < b.1) ∧ args = [.ptr 0 0] ∧ ins = shI L ∧ res = .row 8 2 0 m.length ∧ outs = shI L ++ [.rows 87 2 (m.map encN)] }
theorem list_at (L : Shf) (m : List Bl) (h : Sh L) (hp : m.Perm (bagTo L 7)) (hs : m.Pairwise (fun a b => a.1 < b.1)) : listS.rel [.ptr 0 0] (shI L) (.row 8 2 0 m.length) (shI L ++ [.rows 87 2 (m.map encN)]) := ⟨L, m, h, hp, hs, rfl, rfl, rfl, rfl⟩
set_option maxHeartbeats 16000000 in
theorem list_ok : Ok Try.prog 83 listS := by
  refine fn_ok listS Try.func83 rfl rfl ?_
  rintro args ins res outs ⟨L, m, hL, hp, hs, rfl, rfl, rfl, rfl⟩
  refine ⟨by simp [Try.ntmps83], fun w0 V Bo mu0 => ?_⟩
  repeat' (first
    | (with_reducible first | refine W_seq ?_ | refine W_condT rfl ?_ | refine W_condF rfl ?_ | refine W_tf rfl (fun h => ?_) (fun h => ?_) | refine W_block ?_ | refine endQ_ret ?_ | refine endQ_normal ?_)
    | ((with_reducible first | refine hK _ ?_ | refine hK _ _ ?_); clear hK K)
    | ((first | (with_reducible first | refine ops_cons (fun K hK => ?_) | refine opsd_cons (fun K hK => ?_) | refine ops_nil ?_ | refine fit_i64 (by omega) ?_ | refine fit_u8 (by omega) ?_ | refine fit_u64 (by omega) ?_ | refine fit_u32 (by omega) ?_ | refine fit_any ?_) | ((with_reducible refine opsd_nil ?_); refine And.intro (by kernel_rfl) ?_) | with_reducible refine callV_snap ?_ | (with_reducible first | refine slice_old ?_ | refine app_grow ?_ | refine idx_map (by omega) ?_ | refine W_reg lv83BdI ?_ | refine W_drw lv83BdI (by kernel_rfl) ?_ | refine W_skip ?_ | refine W_exit ?_ | refine W_ret ?_ | refine end_at0 ?_) | (with_reducible refine And.intro (fun h => ?_) (fun h => ?_)) | (with_reducible refine And.intro (by omega) ?_)); (try simp only [go_sem, seval, reduceCtorEq, lv83BdI, Try.ntmps83, Try.results83, listS]))
    | fail)
  refine W_adopt 3 87 2 (by decide) (by simp [go_sem]) ?_
  refine W_loop (fun k : Nat => ⟨[(3, .row 8 2 0 (bagTo L k).length), (8, .ptr 0 0), (10, iv k)], (shI L).map some ++ [some (.rows 87 2 ((bagTo L k).map encN))]⟩) (fun k => k ≤ 7) (fun k => 7 - k) 0 (Nat.zero_le _) [0, 1, 2, 3, 4, 5, 6, 7, 8] ?_ ?_
  · simp [go_sem, bagTo]
  intro k hk
  simp only [List.map_cons, List.map_nil, List.cons_append, List.nil_append]
  by_cases h7 : k = 7
  · subst h7
    have hc7 : ((7 : Nat) : Int) = 7 := rfl
    have hbl := bagTo_len hL 7
    have hml : m.length = (bagTo L 7).length := hp.length_eq
    have hrg := bagTo_rng hL
    repeat' (first
      | (with_reducible first | refine W_seq ?_ | refine W_condT rfl ?_ | refine W_condF rfl ?_ | refine W_tf rfl (fun h => ?_) (fun h => ?_) | refine W_block ?_ | refine endQ_ret ?_ | refine endQ_normal ?_)
      | ((with_reducible first | refine hK _ ?_ | refine hK _ _ ?_); clear hK K)
      | ((first | (with_reducible first | refine ops_cons (fun K hK => ?_) | refine opsd_cons (fun K hK => ?_) | refine ops_nil ?_ | refine fit_i64 (by omega) ?_ | refine fit_u8 (by omega) ?_ | refine fit_u64 (by omega) ?_ | refine fit_u32 (by omega) ?_ | refine fit_any ?_) | ((with_reducible refine opsd_nil ?_); refine And.intro (by kernel_rfl) ?_) | ((with_reducible refine callV_lend sortS [8] sort_ok rfl ?_); simp only [go_sem, seval, reduceCtorEq, hc7, sortS, decide_true, Bool.and_self, lv83BdI]; refine ⟨(by first | exact alOk_nil _ | exact alOk_f rfl), rfl, _, _, sort_at (bagTo L 7) m (by omega) hrg hp hs, ?_⟩) | with_reducible refine callV_snap ?_ | (with_reducible first | refine slice_old ?_ | refine app_grow ?_ | refine idx_map (by omega) ?_ | refine W_reg lv83BdI ?_ | refine W_drw lv83BdI (by kernel_rfl) ?_ | refine W_skip ?_ | refine W_exit ?_ | refine end_at0 ?_) | (with_reducible refine And.intro (fun h => ?_) (fun h => ?_)) | (with_reducible refine And.intro (by omega) ?_)); (try simp only [go_sem, seval, reduceCtorEq, hc7, sortS, decide_true, Bool.and_self, lv83BdI, sortS, Try.ntmps83, Try.results83, listS]))
      | fail)
    rw [← hml]
    refine W_ret (endQ_ret (end_at [0, 1, 2, 3, 4, 5, 6, 7, 8] ?_))
    simp [go_sem, Try.results83, listS, encU, encN]
    rintro r x y _ rfl z hz
    simp only [List.mem_cons, List.not_mem_nil, or_false] at hz
    rcases hz with rfl | rfl <;> trivial
  have h67 : k = 0 ∨ k = 1 ∨ k = 2 ∨ k = 3 ∨ k = 4 ∨ k = 5 ∨ k = 6 := by omega
  rcases h67 with rfl | rfl | rfl | rfl | rfl | rfl | rfl
  · have hk' : ((0 : Nat) : Int) = 0 := rfl
    repeat' (first
      | (with_reducible first | refine W_seq ?_ | refine W_condT rfl ?_ | refine W_condF rfl ?_ | refine W_tf rfl (fun h => ?_) (fun h => ?_) | refine W_block ?_ | refine endQ_ret ?_ | refine endQ_normal ?_)
      | ((with_reducible first | refine hK _ ?_ | refine hK _ _ ?_); clear hK K)
      | ((first | (with_reducible first | refine ops_cons (fun K hK => ?_) | refine opsd_cons (fun K hK => ?_) | refine ops_nil ?_ | refine fit_i64 (by omega) ?_ | refine fit_u8 (by omega) ?_ | refine fit_u64 (by omega) ?_ | refine fit_u32 (by omega) ?_ | refine fit_any ?_) | ((with_reducible refine opsd_nil ?_); refine And.intro (by kernel_rfl) ?_) | with_reducible refine callV_snap ?_ | (with_reducible first | refine slice_old ?_ | refine app_grow ?_ | refine idx_map (by omega) ?_ | refine W_reg lv83BdI ?_ | refine W_drw lv83BdI (by kernel_rfl) ?_ | refine W_skip ?_ | refine W_exit ?_ | refine end_at0 ?_) | (with_reducible refine And.intro (fun h => ?_) (fun h => ?_)) | (with_reducible refine And.intro (by omega) ?_)); (try simp only [go_sem, seval, reduceCtorEq, hk', lv83BdI, Try.ntmps83, Try.results83, listS]))
      | fail)
    refine W_loop (fun x : Nat × List Bl => ⟨[(3, .row 8 2 0 x.2.length), (4, iv 0), (8, .ptr 0 0), (10, iv 0), (16, .row 1 1 0 (L 0).length), (17, iv (L 0).length), (18, iv x.1)], (shI L).map some ++ [some (.rows 87 2 (x.2.map encN))]⟩)
      (fun x => x.1 ≤ (L 0).length ∧ x.2.length ≤ 256 * 0 + x.1 ∧ x.2 ++ ((L 0).drop x.1).map (fun a => (a, 0)) = bagTo L 1) (fun x => (L 0).length - x.1) (0, bagTo L 0) ⟨Nat.zero_le _, bagTo_len hL 0, rfl⟩ [0, 1, 2, 3, 4, 5, 6, 7, 8] ?_ ?_
    · simp [go_sem]
    rintro ⟨i, acc⟩ ⟨hi, hal, hgo⟩
    dsimp only at hi hal hgo
    have hl256 := hL.len 0
    simp only [List.map_cons, List.map_nil, List.cons_append, List.nil_append]
    by_cases hlt : i < (L 0).length
    · have hki : (i : Int) < (L 0).length := by omega
      have hx := hL.lt 0 _ (List.getElem_mem hlt)
      have hu : encU ((L 0)[i]) = [.int .u8 ((L 0)[i] : Int)] := rfl
      rw [drop_get _ i hlt, List.map_cons] at hgo
      repeat' (first
        | (with_reducible first | refine W_seq ?_ | refine W_condT rfl ?_ | refine W_condF rfl ?_ | refine W_tf rfl (fun h => ?_) (fun h => ?_) | refine W_block ?_ | refine endQ_ret ?_ | refine endQ_normal ?_)
        | ((with_reducible first | refine hK _ ?_ | refine hK _ _ ?_); clear hK K)
        | ((with_reducible refine And.intro (encNe.rows _) ?_))
        | ((first | (with_reducible first | refine ops_cons (fun K hK => ?_) | refine opsd_cons (fun K hK => ?_) | refine ops_nil ?_ | refine fit_i64 (by omega) ?_ | refine fit_u8 (by omega) ?_ | refine fit_u64 (by omega) ?_ | refine fit_u32 (by omega) ?_ | refine fit_any ?_) | ((with_reducible refine opsd_nil ?_); refine And.intro (by kernel_rfl) ?_) | with_reducible refine callV_snap ?_ | (with_reducible first | refine slice_old ?_ | refine app_grow ?_ | refine idx_map (by omega) ?_ | refine W_reg lv83BdI ?_ | refine W_drw lv83BdI (by kernel_rfl) ?_ | refine W_skip ?_ | refine W_exit ?_ | refine end_at0 ?_) | (with_reducible refine And.intro (fun h => ?_) (fun h => ?_)) | (with_reducible refine And.intro (by omega) ?_)); (try simp only [go_sem, seval, reduceCtorEq, hk', hki, hu, lv83BdI, Try.ntmps83, Try.results83, listS]))
        | fail)
      refine ⟨(i + 1, acc ++ [((L 0)[i], 0)]), [0, 1, 2, 3, 4, 5, 6, 7, 10], ⟨by dsimp only; omega, by simp; omega, by simpa using hgo⟩, by dsimp only; omega, ?_⟩
      simp [go_sem, encN]
    · have hki : ¬ (i : Int) < (L 0).length := by omega
      rw [List.drop_eq_nil_of_le (by omega), List.map_nil, List.append_nil] at hgo
      rw [hgo]
      repeat' (first
        | (with_reducible first | refine W_seq ?_ | refine W_condT rfl ?_ | refine W_condF rfl ?_ | refine W_tf rfl (fun h => ?_) (fun h => ?_) | refine W_block ?_ | refine endQ_ret ?_ | refine endQ_normal ?_)
        | ((with_reducible first | refine hK _ ?_ | refine hK _ _ ?_); clear hK K)
        | ((first | (with_reducible first | refine ops_cons (fun K hK => ?_) | refine opsd_cons (fun K hK => ?_) | refine ops_nil ?_ | refine fit_i64 (by omega) ?_ | refine fit_u8 (by omega) ?_ | refine fit_u64 (by omega) ?_ | refine fit_u32 (by omega) ?_ | refine fit_any ?_) | ((with_reducible refine opsd_nil ?_); refine And.intro (by kernel_rfl) ?_) | with_reducible refine callV_snap ?_ | (with_reducible first | refine slice_old ?_ | refine app_grow ?_ | refine idx_map (by omega) ?_ | refine W_reg lv83BdI ?_ | refine W_drw lv83BdI (by kernel_rfl) ?_ | refine W_skip ?_ | refine W_exit ?_ | refine end_at0 ?_) | (with_reducible refine And.intro (fun h => ?_) (fun h => ?_)) | (with_reducible refine And.intro (by omega) ?_)); (try simp only [go_sem, seval, reduceCtorEq, hk', hki, lv83BdI, Try.ntmps83, Try.results83, listS]))
        | fail)
      refine ⟨1, [0, 1, 2, 3, 4, 5, 6, 7, 8], by omega, by omega, ?_⟩
      simp [go_sem]
  · have hk' : ((1 : Nat) : Int) = 1 := rfl
    repeat' (first
      | (with_reducible first | refine W_seq ?_ | refine W_condT rfl ?_ | refine W_condF rfl ?_ | refine W_tf rfl (fun h => ?_) (fun h => ?_) | refine W_block ?_ | refine endQ_ret ?_ | refine endQ_normal ?_)
      | ((with_reducible first | refine hK _ ?_ | refine hK _ _ ?_); clear hK K)
      | ((first | (with_reducible first | refine ops_cons (fun K hK => ?_) | refine opsd_cons (fun K hK => ?_) | refine ops_nil ?_ | refine fit_i64 (by omega) ?_ | refine fit_u8 (by omega) ?_ | refine fit_u64 (by omega) ?_ | refine fit_u32 (by omega) ?_ | refine fit_any ?_) | ((with_reducible refine opsd_nil ?_); refine And.intro (by kernel_rfl) ?_) | with_reducible refine callV_snap ?_ | (with_reducible first | refine slice_old ?_ | refine app_grow ?_ | refine idx_map (by omega) ?_ | refine W_reg lv83BdI ?_ | refine W_drw lv83BdI (by kernel_rfl) ?_ | refine W_skip ?_ | refine W_exit ?_ | refine end_at0 ?_) | (with_reducible refine And.intro (fun h => ?_) (fun h => ?_)) | (with_reducible refine And.intro (by omega) ?_)); (try simp only [go_sem, seval, reduceCtorEq, hk', lv83BdI, Try.ntmps83, Try.results83, listS]))
      | fail)
    refine W_loop (fun x : Nat × List Bl => ⟨[(3, .row 8 2 0 x.2.length), (4, iv 1), (8, .ptr 0 0), (10, iv 1), (16, .row 2 1 0 (L 1).length), (17, iv (L 1).length), (18, iv x.1)], (shI L).map some ++ [some (.rows 87 2 (x.2.map encN))]⟩)
      (fun x => x.1 ≤ (L 1).length ∧ x.2.length ≤ 256 * 1 + x.1 ∧ x.2 ++ ((L 1).drop x.1).map (fun a => (a, 1)) = bagTo L 2) (fun x => (L 1).length - x.1) (0, bagTo L 1) ⟨Nat.zero_le _, bagTo_len hL 1, rfl⟩ [0, 1, 2, 3, 4, 5, 6, 7, 8] ?_ ?_
    · simp [go_sem]
    rintro ⟨i, acc⟩ ⟨hi, hal, hgo⟩
    dsimp only at hi hal hgo
    have hl256 := hL.len 1
    simp only [List.map_cons, List.map_nil, List.cons_append, List.nil_append]
    by_cases hlt : i < (L 1).length
    · have hki : (i : Int) < (L 1).length := by omega
      have hx := hL.lt 1 _ (List.getElem_mem hlt)
      have hu : encU ((L 1)[i]) = [.int .u8 ((L 1)[i] : Int)] := rfl
      rw [drop_get _ i hlt, List.map_cons] at hgo
      repeat' (first
        | (with_reducible first | refine W_seq ?_ | refine W_condT rfl ?_ | refine W_condF rfl ?_ | refine W_tf rfl (fun h => ?_) (fun h => ?_) | refine W_block ?_ | refine endQ_ret ?_ | refine endQ_normal ?_)
        | ((with_reducible first | refine hK _ ?_ | refine hK _ _ ?_); clear hK K)
        | ((with_reducible refine And.intro (encNe.rows _) ?_))
        | ((first | (with_reducible first | refine ops_cons (fun K hK => ?_) | refine opsd_cons (fun K hK => ?_) | refine ops_nil ?_ | refine fit_i64 (by omega) ?_ | refine fit_u8 (by omega) ?_ | refine fit_u64 (by omega) ?_ | refine fit_u32 (by omega) ?_ | refine fit_any ?_) | ((with_reducible refine opsd_nil ?_); refine And.intro (by kernel_rfl) ?_) | with_reducible refine callV_snap ?_ | (with_reducible first | refine slice_old ?_ | refine app_grow ?_ | refine idx_map (by omega) ?_ | refine W_reg lv83BdI ?_ | refine W_drw lv83BdI (by kernel_rfl) ?_ | refine W_skip ?_ | refine W_exit ?_ | refine end_at0 ?_) | (with_reducible refine And.intro (fun h => ?_) (fun h => ?_)) | (with_reducible refine And.intro (by omega) ?_)); (try simp only [go_sem, seval, reduceCtorEq, hk', hki, hu, lv83BdI, Try.ntmps83, Try.results83, listS]))
        | fail)
      refine ⟨(i + 1, acc ++ [((L 1)[i], 1)]), [0, 1, 2, 3, 4, 5, 6, 7, 10], ⟨by dsimp only; omega, by simp; omega, by simpa using hgo⟩, by dsimp only; omega, ?_⟩
      simp [go_sem, encN]
    · have hki : ¬ (i : Int) < (L 1).length := by omega
      rw [List.drop_eq_nil_of_le (by omega), List.map_nil, List.append_nil] at hgo
      rw [hgo]
      repeat' (first
        | (with_reducible first | refine W_seq ?_ | refine W_condT rfl ?_ | refine W_condF rfl ?_ | refine W_tf rfl (fun h => ?_) (fun h => ?_) | refine W_block ?_ | refine endQ_ret ?_ | refine endQ_normal ?_)
        | ((with_reducible first | refine hK _ ?_ | refine hK _ _ ?_); clear hK K)
        | ((first | (with_reducible first | refine ops_cons (fun K hK => ?_) | refine opsd_cons (fun K hK => ?_) | refine ops_nil ?_ | refine fit_i64 (by omega) ?_ | refine fit_u8 (by omega) ?_ | refine fit_u64 (by omega) ?_ | refine fit_u32 (by omega) ?_ | refine fit_any ?_) | ((with_reducible refine opsd_nil ?_); refine And.intro (by kernel_rfl) ?_) | with_reducible refine callV_snap ?_ | (with_reducible first | refine slice_old ?_ | refine app_grow ?_ | refine idx_map (by omega) ?_ | refine W_reg lv83BdI ?_ | refine W_drw lv83BdI (by kernel_rfl) ?_ | refine W_skip ?_ | refine W_exit ?_ | refine end_at0 ?_) | (with_reducible refine And.intro (fun h => ?_) (fun h => ?_)) | (with_reducible refine And.intro (by omega) ?_)); (try simp only [go_sem, seval, reduceCtorEq, hk', hki, lv83BdI, Try.ntmps83, Try.results83, listS]))
        | fail)
      refine ⟨2, [0, 1, 2, 3, 4, 5, 6, 7, 8], by omega, by omega, ?_⟩
      simp [go_sem]
  · have hk' : ((2 : Nat) : Int) = 2 := rfl
    repeat' (first
      | (with_reducible first | refine W_seq ?_ | refine W_condT rfl ?_ | refine W_condF rfl ?_ | refine W_tf rfl (fun h => ?_) (fun h => ?_) | refine W_block ?_ | refine endQ_ret ?_ | refine endQ_normal ?_)
      | ((with_reducible first | refine hK _ ?_ | refine hK _ _ ?_); clear hK K)
      | ((first | (with_reducible first | refine ops_cons (fun K hK => ?_) | refine opsd_cons (fun K hK => ?_) | refine ops_nil ?_ | refine fit_i64 (by omega) ?_ | refine fit_u8 (by omega) ?_ | refine fit_u64 (by omega) ?_ | refine fit_u32 (by omega) ?_ | refine fit_any ?_) | ((with_reducible refine opsd_nil ?_); refine And.intro (by kernel_rfl) ?_) | with_reducible refine callV_snap ?_ | (with_reducible first | refine slice_old ?_ | refine app_grow ?_ | refine idx_map (by omega) ?_ | refine W_reg lv83BdI ?_ | refine W_drw lv83BdI (by kernel_rfl) ?_ | refine W_skip ?_ | refine W_exit ?_ | refine end_at0 ?_) | (with_reducible refine And.intro (fun h => ?_) (fun h => ?_)) | (with_reducible refine And.intro (by omega) ?_)); (try simp only [go_sem, seval, reduceCtorEq, hk', lv83BdI, Try.ntmps83, Try.results83, listS]))
      | fail)
    refine W_loop (fun x : Nat × List Bl => ⟨[(3, .row 8 2 0 x.2.length), (4, iv 2), (8, .ptr 0 0), (10, iv 2), (16, .row 3 1 0 (L 2).length), (17, iv (L 2).length), (18, iv x.1)], (shI L).map some ++ [some (.rows 87 2 (x.2.map encN))]⟩)
      (fun x => x.1 ≤ (L 2).length ∧ x.2.length ≤ 256 * 2 + x.1 ∧ x.2 ++ ((L 2).drop x.1).map (fun a => (a, 2)) = bagTo L 3) (fun x => (L 2).length - x.1) (0, bagTo L 2) ⟨Nat.zero_le _, bagTo_len hL 2, rfl⟩ [0, 1, 2, 3, 4, 5, 6, 7, 8] ?_ ?_
    · simp [go_sem]
    rintro ⟨i, acc⟩ ⟨hi, hal, hgo⟩
    dsimp only at hi hal hgo
    have hl256 := hL.len 2
    simp only [List.map_cons, List.map_nil, List.cons_append, List.nil_append]
    by_cases hlt : i < (L 2).length
    · have hki : (i : Int) < (L 2).length := by omega
      have hx := hL.lt 2 _ (List.getElem_mem hlt)
      have hu : encU ((L 2)[i]) = [.int .u8 ((L 2)[i] : Int)] := rfl
      rw [drop_get _ i hlt, List.map_cons] at hgo
      repeat' (first
        | (with_reducible first | refine W_seq ?_ | refine W_condT rfl ?_ | refine W_condF rfl ?_ | refine W_tf rfl (fun h => ?_) (fun h => ?_) | refine W_block ?_ | refine endQ_ret ?_ | refine endQ_normal ?_)
        | ((with_reducible first | refine hK _ ?_ | refine hK _ _ ?_); clear hK K)
        | ((with_reducible refine And.intro (encNe.rows _) ?_))
        | ((first | (with_reducible first | refine ops_cons (fun K hK => ?_) | refine opsd_cons (fun K hK => ?_) | refine ops_nil ?_ | refine fit_i64 (by omega) ?_ | refine fit_u8 (by omega) ?_ | refine fit_u64 (by omega) ?_ | refine fit_u32 (by omega) ?_ | refine fit_any ?_) | ((with_reducible refine opsd_nil ?_); refine And.intro (by kernel_rfl) ?_) | with_reducible refine callV_snap ?_ | (with_reducible first | refine slice_old ?_ | refine app_grow ?_ | refine idx_map (by omega) ?_ | refine W_reg lv83BdI ?_ | refine W_drw lv83BdI (by kernel_rfl) ?_ | refine W_skip ?_ | refine W_exit ?_ | refine end_at0 ?_) | (with_reducible refine And.intro (fun h => ?_) (fun h => ?_)) | (with_reducible refine And.intro (by omega) ?_)); (try simp only [go_sem, seval, reduceCtorEq, hk', hki, hu, lv83BdI, Try.ntmps83, Try.results83, listS]))
        | fail)
      refine ⟨(i + 1, acc ++ [((L 2)[i], 2)]), [0, 1, 2, 3, 4, 5, 6, 7, 10], ⟨by dsimp only; omega, by simp; omega, by simpa using hgo⟩, by dsimp only; omega, ?_⟩
      simp [go_sem, encN]
    · have hki : ¬ (i : Int) < (L 2).length := by omega
      rw [List.drop_eq_nil_of_le (by omega), List.map_nil, List.append_nil] at hgo
      rw [hgo]
      repeat' (first
        | (with_reducible first | refine W_seq ?_ | refine W_condT rfl ?_ | refine W_condF rfl ?_ | refine W_tf rfl (fun h => ?_) (fun h => ?_) | refine W_block ?_ | refine endQ_ret ?_ | refine endQ_normal ?_)
        | ((with_reducible first | refine hK _ ?_ | refine hK _ _ ?_); clear hK K)
        | ((first | (with_reducible first | refine ops_cons (fun K hK => ?_) | refine opsd_cons (fun K hK => ?_) | refine ops_nil ?_ | refine fit_i64 (by omega) ?_ | refine fit_u8 (by omega) ?_ | refine fit_u64 (by omega) ?_ | refine fit_u32 (by omega) ?_ | refine fit_any ?_) | ((with_reducible refine opsd_nil ?_); refine And.intro (by kernel_rfl) ?_) | with_reducible refine callV_snap ?_ | (with_reducible first | refine slice_old ?_ | refine app_grow ?_ | refine idx_map (by omega) ?_ | refine W_reg lv83BdI ?_ | refine W_drw lv83BdI (by kernel_rfl) ?_ | refine W_skip ?_ | refine W_exit ?_ | refine end_at0 ?_) | (with_reducible refine And.intro (fun h => ?_) (fun h => ?_)) | (with_reducible refine And.intro (by omega) ?_)); (try simp only [go_sem, seval, reduceCtorEq, hk', hki, lv83BdI, Try.ntmps83, Try.results83, listS]))
        | fail)
      refine ⟨3, [0, 1, 2, 3, 4, 5, 6, 7, 8], by omega, by omega, ?_⟩
      simp [go_sem]
  · have hk' : ((3 : Nat) : Int) = 3 := rfl
    repeat' (first
      | (with_reducible first | refine W_seq ?_ | refine W_condT rfl ?_ | refine W_condF rfl ?_ | refine W_tf rfl (fun h => ?_) (fun h => ?_) | refine W_block ?_ | refine endQ_ret ?_ | refine endQ_normal ?_)
      | ((with_reducible first | refine hK _ ?_ | refine hK _ _ ?_); clear hK K)
      | ((first | (with_reducible first | refine ops_cons (fun K hK => ?_) | refine opsd_cons (fun K hK => ?_) | refine ops_nil ?_ | refine fit_i64 (by omega) ?_ | refine fit_u8 (by omega) ?_ | refine fit_u64 (by omega) ?_ | refine fit_u32 (by omega) ?_ | refine fit_any ?_) | ((with_reducible refine opsd_nil ?_); refine And.intro (by kernel_rfl) ?_) | with_reducible refine callV_snap ?_ | (with_reducible first | refine slice_old ?_ | refine app_grow ?_ | refine idx_map (by omega) ?_ | refine W_reg lv83BdI ?_ | refine W_drw lv83BdI (by kernel_rfl) ?_ | refine W_skip ?_ | refine W_exit ?_ | refine end_at0 ?_) | (with_reducible refine And.intro (fun h => ?_) (fun h => ?_)) | (with_reducible refine And.intro (by omega) ?_)); (try simp only [go_sem, seval, reduceCtorEq, hk', lv83BdI, Try.ntmps83, Try.results83, listS]))
      | fail)
    refine W_loop (fun x : Nat × List Bl => ⟨[(3, .row 8 2 0 x.2.length), (4, iv 3), (8, .ptr 0 0), (10, iv 3), (16, .row 4 1 0 (L 3).length), (17, iv (L 3).length), (18, iv x.1)], (shI L).map some ++ [some (.rows 87 2 (x.2.map encN))]⟩)
      (fun x => x.1 ≤ (L 3).length ∧ x.2.length ≤ 256 * 3 + x.1 ∧ x.2 ++ ((L 3).drop x.1).map (fun a => (a, 3)) = bagTo L 4) (fun x => (L 3).length - x.1) (0, bagTo L 3) ⟨Nat.zero_le _, bagTo_len hL 3, rfl⟩ [0, 1, 2, 3, 4, 5, 6, 7, 8] ?_ ?_
    · simp [go_sem]
    rintro ⟨i, acc⟩ ⟨hi, hal, hgo⟩
    dsimp only at hi hal hgo
    have hl256 := hL.len 3
    simp only [List.map_cons, List.map_nil, List.cons_append, List.nil_append]
    by_cases hlt : i < (L 3).length
    · have hki : (i : Int) < (L 3).length := by omega
      have hx := hL.lt 3 _ (List.getElem_mem hlt)
      have hu : encU ((L 3)[i]) = [.int .u8 ((L 3)[i] : Int)] := rfl
      rw [drop_get _ i hlt, List.map_cons] at hgo
      repeat' (first
        | (with_reducible first | refine W_seq ?_ | refine W_condT rfl ?_ | refine W_condF rfl ?_ | refine W_tf rfl (fun h => ?_) (fun h => ?_) | refine W_block ?_ | refine endQ_ret ?_ | refine endQ_normal ?_)
        | ((with_reducible first | refine hK _ ?_ | refine hK _ _ ?_); clear hK K)
        | ((with_reducible refine And.intro (encNe.rows _) ?_))
        | ((first | (with_reducible first | refine ops_cons (fun K hK => ?_) | refine opsd_cons (fun K hK => ?_) | refine ops_nil ?_ | refine fit_i64 (by omega) ?_ | refine fit_u8 (by omega) ?_ | refine fit_u64 (by omega) ?_ | refine fit_u32 (by omega) ?_ | refine fit_any ?_) | ((with_reducible refine opsd_nil ?_); refine And.intro (by kernel_rfl) ?_) | with_reducible refine callV_snap ?_ | (with_reducible first | refine slice_old ?_ | refine app_grow ?_ | refine idx_map (by omega) ?_ | refine W_reg lv83BdI ?_ | refine W_drw lv83BdI (by kernel_rfl) ?_ | refine W_skip ?_ | refine W_exit ?_ | refine end_at0 ?_) | (with_reducible refine And.intro (fun h => ?_) (fun h => ?_)) | (with_reducible refine And.intro (by omega) ?_)); (try simp only [go_sem, seval, reduceCtorEq, hk', hki, hu, lv83BdI, Try.ntmps83, Try.results83, listS]))
        | fail)
      refine ⟨(i + 1, acc ++ [((L 3)[i], 3)]), [0, 1, 2, 3, 4, 5, 6, 7, 10], ⟨by dsimp only; omega, by simp; omega, by simpa using hgo⟩, by dsimp only; omega, ?_⟩
      simp [go_sem, encN]
    · have hki : ¬ (i : Int) < (L 3).length := by omega
      rw [List.drop_eq_nil_of_le (by omega), List.map_nil, List.append_nil] at hgo
      rw [hgo]
      repeat' (first
        | (with_reducible first | refine W_seq ?_ | refine W_condT rfl ?_ | refine W_condF rfl ?_ | refine W_tf rfl (fun h => ?_) (fun h => ?_) | refine W_block ?_ | refine endQ_ret ?_ | refine endQ_normal ?_)
        | ((with_reducible first | refine hK _ ?_ | refine hK _ _ ?_); clear hK K)
        | ((first | (with_reducible first | refine ops_cons (fun K hK => ?_) | refine opsd_cons (fun K hK => ?_) | refine ops_nil ?_ | refine fit_i64 (by omega) ?_ | refine fit_u8 (by omega) ?_ | refine fit_u64 (by omega) ?_ | refine fit_u32 (by omega) ?_ | refine fit_any ?_) | ((with_reducible refine opsd_nil ?_); refine And.intro (by kernel_rfl) ?_) | with_reducible refine callV_snap ?_ | (with_reducible first | refine slice_old ?_ | refine app_grow ?_ | refine idx_map (by omega) ?_ | refine W_reg lv83BdI ?_ | refine W_drw lv83BdI (by kernel_rfl) ?_ | refine W_skip ?_ | refine W_exit ?_ | refine end_at0 ?_) | (with_reducible refine And.intro (fun h => ?_) (fun h => ?_)) | (with_reducible refine And.intro (by omega) ?_)); (try simp only [go_sem, seval, reduceCtorEq, hk', hki, lv83BdI, Try.ntmps83, Try.results83, listS]))
        | fail)
      refine ⟨4, [0, 1, 2, 3, 4, 5, 6, 7, 8], by omega, by omega, ?_⟩
      simp [go_sem]
  · have hk' : ((4 : Nat) : Int) = 4 := rfl
    repeat' (first
      | (with_reducible first | refine W_seq ?_ | refine W_condT rfl ?_ | refine W_condF rfl ?_ | refine W_tf rfl (fun h => ?_) (fun h => ?_) | refine W_block ?_ | refine endQ_ret ?_ | refine endQ_normal ?_)
      | ((with_reducible first | refine hK _ ?_ | refine hK _ _ ?_); clear hK K)
      | ((first | (with_reducible first | refine ops_cons (fun K hK => ?_) | refine opsd_cons (fun K hK => ?_) | refine ops_nil ?_ | refine fit_i64 (by omega) ?_ | refine fit_u8 (by omega) ?_ | refine fit_u64 (by omega) ?_ | refine fit_u32 (by omega) ?_ | refine fit_any ?_) | ((with_reducible refine opsd_nil ?_); refine And.intro (by kernel_rfl) ?_) | with_reducible refine callV_snap ?_ | (with_reducible first | refine slice_old ?_ | refine app_grow ?_ | refine idx_map (by omega) ?_ | refine W_reg lv83BdI ?_ | refine W_drw lv83BdI (by kernel_rfl) ?_ | refine W_skip ?_ | refine W_exit ?_ | refine end_at0 ?_) | (with_reducible refine And.intro (fun h => ?_) (fun h => ?_)) | (with_reducible refine And.intro (by omega) ?_)); (try simp only [go_sem, seval, reduceCtorEq, hk', lv83BdI, Try.ntmps83, Try.results83, listS]))
      | fail)
    refine W_loop (fun x : Nat × List Bl => ⟨[(3, .row 8 2 0 x.2.length), (4, iv 4), (8, .ptr 0 0), (10, iv 4), (16, .row 5 1 0 (L 4).length), (17, iv (L 4).length), (18, iv x.1)], (shI L).map some ++ [some (.rows 87 2 (x.2.map encN))]⟩)
      (fun x => x.1 ≤ (L 4).length ∧ x.2.length ≤ 256 * 4 + x.1 ∧ x.2 ++ ((L 4).drop x.1).map (fun a => (a, 4)) = bagTo L 5) (fun x => (L 4).length - x.1) (0, bagTo L 4) ⟨Nat.zero_le _, bagTo_len hL 4, rfl⟩ [0, 1, 2, 3, 4, 5, 6, 7, 8] ?_ ?_
    · simp [go_sem]
    rintro ⟨i, acc⟩ ⟨hi, hal, hgo⟩
    dsimp only at hi hal hgo
    have hl256 := hL.len 4
    simp only [List.map_cons, List.map_nil, List.cons_append, List.nil_append]
    by_cases hlt : i < (L 4).length
    · have hki : (i : Int) < (L 4).length := by omega
      have hx := hL.lt 4 _ (List.getElem_mem hlt)
      have hu : encU ((L 4)[i]) = [.int .u8 ((L 4)[i] : Int)] := rfl
      rw [drop_get _ i hlt, List.map_cons] at hgo
      repeat' (first
        | (with_reducible first | refine W_seq ?_ | refine W_condT rfl ?_ | refine W_condF rfl ?_ | refine W_tf rfl (fun h => ?_) (fun h => ?_) | refine W_block ?_ | refine endQ_ret ?_ | refine endQ_normal ?_)
        | ((with_reducible first | refine hK _ ?_ | refine hK _ _ ?_); clear hK K)
        | ((with_reducible refine And.intro (encNe.rows _) ?_))
        | ((first | (with_reducible first | refine ops_cons (fun K hK => ?_) | refine opsd_cons (fun K hK => ?_) | refine ops_nil ?_ | refine fit_i64 (by omega) ?_ | refine fit_u8 (by omega) ?_ | refine fit_u64 (by omega) ?_ | refine fit_u32 (by omega) ?_ | refine fit_any ?_) | ((with_reducible refine opsd_nil ?_); refine And.intro (by kernel_rfl) ?_) | with_reducible refine callV_snap ?_ | (with_reducible first | refine slice_old ?_ | refine app_grow ?_ | refine idx_map (by omega) ?_ | refine W_reg lv83BdI ?_ | refine W_drw lv83BdI (by kernel_rfl) ?_ | refine W_skip ?_ | refine W_exit ?_ | refine end_at0 ?_) | (with_reducible refine And.intro (fun h => ?_) (fun h => ?_)) | (with_reducible refine And.intro (by omega) ?_)); (try simp only [go_sem, seval, reduceCtorEq, hk', hki, hu, lv83BdI, Try.ntmps83, Try.results83, listS]))
        | fail)
      refine ⟨(i + 1, acc ++ [((L 4)[i], 4)]), [0, 1, 2, 3, 4, 5, 6, 7, 10], ⟨by dsimp only; omega, by simp; omega, by simpa using hgo⟩, by dsimp only; omega, ?_⟩
      simp [go_sem, encN]
    · have hki : ¬ (i : Int) < (L 4).length := by omega
      rw [List.drop_eq_nil_of_le (by omega), List.map_nil, List.append_nil] at hgo
      rw [hgo]
      repeat' (first
        | (with_reducible first | refine W_seq ?_ | refine W_condT rfl ?_ | refine W_condF rfl ?_ | refine W_tf rfl (fun h => ?_) (fun h => ?_) | refine W_block ?_ | refine endQ_ret ?_ | refine endQ_normal ?_)
        | ((with_reducible first | refine hK _ ?_ | refine hK _ _ ?_); clear hK K)
        | ((first | (with_reducible first | refine ops_cons (fun K hK => ?_) | refine opsd_cons (fun K hK => ?_) | refine ops_nil ?_ | refine fit_i64 (by omega) ?_ | refine fit_u8 (by omega) ?_ | refine fit_u64 (by omega) ?_ | refine fit_u32 (by omega) ?_ | refine fit_any ?_) | ((with_reducible refine opsd_nil ?_); refine And.intro (by kernel_rfl) ?_) | with_reducible refine callV_snap ?_ | (with_reducible first | refine slice_old ?_ | refine app_grow ?_ | refine idx_map (by omega) ?_ | refine W_reg lv83BdI ?_ | refine W_drw lv83BdI (by kernel_rfl) ?_ | refine W_skip ?_ | refine W_exit ?_ | refine end_at0 ?_) | (with_reducible refine And.intro (fun h => ?_) (fun h => ?_)) | (with_reducible refine And.intro (by omega) ?_)); (try simp only [go_sem, seval, reduceCtorEq, hk', hki, lv83BdI, Try.ntmps83, Try.results83, listS]))
        | fail)
      refine ⟨5, [0, 1, 2, 3, 4, 5, 6, 7, 8], by omega, by omega, ?_⟩
      simp [go_sem]
  · have hk' : ((5 : Nat) : Int) = 5 := rfl
    repeat' (first
      | (with_reducible first | refine W_seq ?_ | refine W_condT rfl ?_ | refine W_condF rfl ?_ | refine W_tf rfl (fun h => ?_) (fun h => ?_) | refine W_block ?_ | refine endQ_ret ?_ | refine endQ_normal ?_)
      | ((with_reducible first | refine hK _ ?_ | refine hK _ _ ?_); clear hK K)
      | ((first | (with_reducible first | refine ops_cons (fun K hK => ?_) | refine opsd_cons (fun K hK => ?_) | refine ops_nil ?_ | refine fit_i64 (by omega) ?_ | refine fit_u8 (by omega) ?_ | refine fit_u64 (by omega) ?_ | refine fit_u32 (by omega) ?_ | refine fit_any ?_) | ((with_reducible refine opsd_nil ?_); refine And.intro (by kernel_rfl) ?_) | with_reducible refine callV_snap ?_ | (with_reducible first | refine slice_old ?_ | refine app_grow ?_ | refine idx_map (by omega) ?_ | refine W_reg lv83BdI ?_ | refine W_drw lv83BdI (by kernel_rfl) ?_ | refine W_skip ?_ | refine W_exit ?_ | refine end_at0 ?_) | (with_reducible refine And.intro (fun h => ?_) (fun h => ?_)) | (with_reducible refine And.intro (by omega) ?_)); (try simp only [go_sem, seval, reduceCtorEq, hk', lv83BdI, Try.ntmps83, Try.results83, listS]))
      | fail)
    refine W_loop (fun x : Nat × List Bl => ⟨[(3, .row 8 2 0 x.2.length), (4, iv 5), (8, .ptr 0 0), (10, iv 5), (16, .row 6 1 0 (L 5).length), (17, iv (L 5).length), (18, iv x.1)], (shI L).map some ++ [some (.rows 87 2 (x.2.map encN))]⟩)
      (fun x => x.1 ≤ (L 5).length ∧ x.2.length ≤ 256 * 5 + x.1 ∧ x.2 ++ ((L 5).drop x.1).map (fun a => (a, 5)) = bagTo L 6) (fun x => (L 5).length - x.1) (0, bagTo L 5) ⟨Nat.zero_le _, bagTo_len hL 5, rfl⟩ [0, 1, 2, 3, 4, 5, 6, 7, 8] ?_ ?_
    · simp [go_sem]
    rintro ⟨i, acc⟩ ⟨hi, hal, hgo⟩
    dsimp only at hi hal hgo
    have hl256 := hL.len 5
    simp only [List.map_cons, List.map_nil, List.cons_append, List.nil_append]
    by_cases hlt : i < (L 5).length
    · have hki : (i : Int) < (L 5).length := by omega
      have hx := hL.lt 5 _ (List.getElem_mem hlt)
      have hu : encU ((L 5)[i]) = [.int .u8 ((L 5)[i] : Int)] := rfl
      rw [drop_get _ i hlt, List.map_cons] at hgo
      repeat' (first
        | (with_reducible first | refine W_seq ?_ | refine W_condT rfl ?_ | refine W_condF rfl ?_ | refine W_tf rfl (fun h => ?_) (fun h => ?_) | refine W_block ?_ | refine endQ_ret ?_ | refine endQ_normal ?_)
        | ((with_reducible first | refine hK _ ?_ | refine hK _ _ ?_); clear hK K)
        | ((with_reducible refine And.intro (encNe.rows _) ?_))
        | ((first | (with_reducible first | refine ops_cons (fun K hK => ?_) | refine opsd_cons (fun K hK => ?_) | refine ops_nil ?_ | refine fit_i64 (by omega) ?_ | refine fit_u8 (by omega) ?_ | refine fit_u64 (by omega) ?_ | refine fit_u32 (by omega) ?_ | refine fit_any ?_) | ((with_reducible refine opsd_nil ?_); refine And.intro (by kernel_rfl) ?_) | with_reducible refine callV_snap ?_ | (with_reducible first | refine slice_old ?_ | refine app_grow ?_ | refine idx_map (by omega) ?_ | refine W_reg lv83BdI ?_ | refine W_drw lv83BdI (by kernel_rfl) ?_ | refine W_skip ?_ | refine W_exit ?_ | refine end_at0 ?_) | (with_reducible refine And.intro (fun h => ?_) (fun h => ?_)) | (with_reducible refine And.intro (by omega) ?_)); (try simp only [go_sem, seval, reduceCtorEq, hk', hki, hu, lv83BdI, Try.ntmps83, Try.results83, listS]))
        | fail)
      refine ⟨(i + 1, acc ++ [((L 5)[i], 5)]), [0, 1, 2, 3, 4, 5, 6, 7, 10], ⟨by dsimp only; omega, by simp; omega, by simpa using hgo⟩, by dsimp only; omega, ?_⟩
      simp [go_sem, encN]
    · have hki : ¬ (i : Int) < (L 5).length := by omega
      rw [List.drop_eq_nil_of_le (by omega), List.map_nil, List.append_nil] at hgo
      rw [hgo]
      repeat' (first
        | (with_reducible first | refine W_seq ?_ | refine W_condT rfl ?_ | refine W_condF rfl ?_ | refine W_tf rfl (fun h => ?_) (fun h => ?_) | refine W_block ?_ | refine endQ_ret ?_ | refine endQ_normal ?_)
        | ((with_reducible first | refine hK _ ?_ | refine hK _ _ ?_); clear hK K)
        | ((first | (with_reducible first | refine ops_cons (fun K hK => ?_) | refine opsd_cons (fun K hK => ?_) | refine ops_nil ?_ | refine fit_i64 (by omega) ?_ | refine fit_u8 (by omega) ?_ | refine fit_u64 (by omega) ?_ | refine fit_u32 (by omega) ?_ | refine fit_any ?_) | ((with_reducible refine opsd_nil ?_); refine And.intro (by kernel_rfl) ?_) | with_reducible refine callV_snap ?_ | (with_reducible first | refine slice_old ?_ | refine app_grow ?_ | refine idx_map (by omega) ?_ | refine W_reg lv83BdI ?_ | refine W_drw lv83BdI (by kernel_rfl) ?_ | refine W_skip ?_ | refine W_exit ?_ | refine end_at0 ?_) | (with_reducible refine And.intro (fun h => ?_) (fun h => ?_)) | (with_reducible refine And.intro (by omega) ?_)); (try simp only [go_sem, seval, reduceCtorEq, hk', hki, lv83BdI, Try.ntmps83, Try.results83, listS]))
        | fail)
      refine ⟨6, [0, 1, 2, 3, 4, 5, 6, 7, 8], by omega, by omega, ?_⟩
      simp [go_sem]
  · have hk' : ((6 : Nat) : Int) = 6 := rfl
    repeat' (first
      | (with_reducible first | refine W_seq ?_ | refine W_condT rfl ?_ | refine W_condF rfl ?_ | refine W_tf rfl (fun h => ?_) (fun h => ?_) | refine W_block ?_ | refine endQ_ret ?_ | refine endQ_normal ?_)
      | ((with_reducible first | refine hK _ ?_ | refine hK _ _ ?_); clear hK K)
      | ((first | (with_reducible first | refine ops_cons (fun K hK => ?_) | refine opsd_cons (fun K hK => ?_) | refine ops_nil ?_ | refine fit_i64 (by omega) ?_ | refine fit_u8 (by omega) ?_ | refine fit_u64 (by omega) ?_ | refine fit_u32 (by omega) ?_ | refine fit_any ?_) | ((with_reducible refine opsd_nil ?_); refine And.intro (by kernel_rfl) ?_) | with_reducible refine callV_snap ?_ | (with_reducible first | refine slice_old ?_ | refine app_grow ?_ | refine idx_map (by omega) ?_ | refine W_reg lv83BdI ?_ | refine W_drw lv83BdI (by kernel_rfl) ?_ | refine W_skip ?_ | refine W_exit ?_ | refine end_at0 ?_) | (with_reducible refine And.intro (fun h => ?_) (fun h => ?_)) | (with_reducible refine And.intro (by omega) ?_)); (try simp only [go_sem, seval, reduceCtorEq, hk', lv83BdI, Try.ntmps83, Try.results83, listS]))
      | fail)
    refine W_loop (fun x : Nat × List Bl => ⟨[(3, .row 8 2 0 x.2.length), (4, iv 6), (8, .ptr 0 0), (10, iv 6), (16, .row 7 1 0 (L 6).length), (17, iv (L 6).length), (18, iv x.1)], (shI L).map some ++ [some (.rows 87 2 (x.2.map encN))]⟩)
      (fun x => x.1 ≤ (L 6).length ∧ x.2.length ≤ 256 * 6 + x.1 ∧ x.2 ++ ((L 6).drop x.1).map (fun a => (a, 6)) = bagTo L 7) (fun x => (L 6).length - x.1) (0, bagTo L 6) ⟨Nat.zero_le _, bagTo_len hL 6, rfl⟩ [0, 1, 2, 3, 4, 5, 6, 7, 8] ?_ ?_
    · simp [go_sem]
    rintro ⟨i, acc⟩ ⟨hi, hal, hgo⟩
    dsimp only at hi hal hgo
    have hl256 := hL.len 6
    simp only [List.map_cons, List.map_nil, List.cons_append, List.nil_append]
    by_cases hlt : i < (L 6).length
    · have hki : (i : Int) < (L 6).length := by omega
      have hx := hL.lt 6 _ (List.getElem_mem hlt)
      have hu : encU ((L 6)[i]) = [.int .u8 ((L 6)[i] : Int)] := rfl
      rw [drop_get _ i hlt, List.map_cons] at hgo
      repeat' (first
        | (with_reducible first | refine W_seq ?_ | refine W_condT rfl ?_ | refine W_condF rfl ?_ | refine W_tf rfl (fun h => ?_) (fun h => ?_) | refine W_block ?_ | refine endQ_ret ?_ | refine endQ_normal ?_)
        | ((with_reducible first | refine hK _ ?_ | refine hK _ _ ?_); clear hK K)
        | ((with_reducible refine And.intro (encNe.rows _) ?_))
        | ((first | (with_reducible first | refine ops_cons (fun K hK => ?_) | refine opsd_cons (fun K hK => ?_) | refine ops_nil ?_ | refine fit_i64 (by omega) ?_ | refine fit_u8 (by omega) ?_ | refine fit_u64 (by omega) ?_ | refine fit_u32 (by omega) ?_ | refine fit_any ?_) | ((with_reducible refine opsd_nil ?_); refine And.intro (by kernel_rfl) ?_) | with_reducible refine callV_snap ?_ | (with_reducible first | refine slice_old ?_ | refine app_grow ?_ | refine idx_map (by omega) ?_ | refine W_reg lv83BdI ?_ | refine W_drw lv83BdI (by kernel_rfl) ?_ | refine W_skip ?_ | refine W_exit ?_ | refine end_at0 ?_) | (with_reducible refine And.intro (fun h => ?_) (fun h => ?_)) | (with_reducible refine And.intro (by omega) ?_)); (try simp only [go_sem, seval, reduceCtorEq, hk', hki, hu, lv83BdI, Try.ntmps83, Try.results83, listS]))
        | fail)
      refine ⟨(i + 1, acc ++ [((L 6)[i], 6)]), [0, 1, 2, 3, 4, 5, 6, 7, 10], ⟨by dsimp only; omega, by simp; omega, by simpa using hgo⟩, by dsimp only; omega, ?_⟩
      simp [go_sem, encN]
    · have hki : ¬ (i : Int) < (L 6).length := by omega
      rw [List.drop_eq_nil_of_le (by omega), List.map_nil, List.append_nil] at hgo
      rw [hgo]
      repeat' (first
        | (with_reducible first | refine W_seq ?_ | refine W_condT rfl ?_ | refine W_condF rfl ?_ | refine W_tf rfl (fun h => ?_) (fun h => ?_) | refine W_block ?_ | refine endQ_ret ?_ | refine endQ_normal ?_)
        | ((with_reducible first | refine hK _ ?_ | refine hK _ _ ?_); clear hK K)
        | ((first | (with_reducible first | refine ops_cons (fun K hK => ?_) | refine opsd_cons (fun K hK => ?_) | refine ops_nil ?_ | refine fit_i64 (by omega) ?_ | refine fit_u8 (by omega) ?_ | refine fit_u64 (by omega) ?_ | refine fit_u32 (by omega) ?_ | refine fit_any ?_) | ((with_reducible refine opsd_nil ?_); refine And.intro (by kernel_rfl) ?_) | with_reducible refine callV_snap ?_ | (with_reducible first | refine slice_old ?_ | refine app_grow ?_ | refine idx_map (by omega) ?_ | refine W_reg lv83BdI ?_ | refine W_drw lv83BdI (by kernel_rfl) ?_ | refine W_skip ?_ | refine W_exit ?_ | refine end_at0 ?_) | (with_reducible refine And.intro (fun h => ?_) (fun h => ?_)) | (with_reducible refine And.intro (by omega) ?_)); (try simp only [go_sem, seval, reduceCtorEq, hk', hki, lv83BdI, Try.ntmps83, Try.results83, listS]))
        | fail)
      refine ⟨7, [0, 1, 2, 3, 4, 5, 6, 7, 8], by omega, by omega, ?_⟩
      simp [go_sem]
end Go.Proofs.Ytacfipmigkbncaa
