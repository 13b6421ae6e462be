/- The specification's New, asked, Take, Free; by the engine. -/
import Derived.Test.YtacfipmigkbncaaBdR
namespace Go.Proofs.Ytacfipmigkbncaa
open Go.RowKit
set_option maxRecDepth 100000
set_option linter.unusedSimpArgs false
set_option linter.unusedVariables false

abbrev lv48BdS : List (Nat × List Nat) := [(0, [0, 2]), (1, [0, 2, 11]), (2, [2, 3]), (3, [0, 2, 4]), (4, [0, 2, 4, 5]), (5, [0, 2, 4, 5, 17]), (6, [0, 2, 4, 5]), (7, [0, 2, 4, 5]), (8, [2, 3])]
abbrev lv64BdS : List (Nat × List Nat) := [(0, [1, 2, 3, 6]), (1, [1, 2, 3, 6, 8]), (2, [1, 2, 3, 6, 8, 15]), (3, [6, 7]), (4, [1, 2, 3, 6, 24]), (5, [6, 7]), (6, [1, 2, 3, 6, 30]), (7, [6, 7]), (8, [1, 2, 6, 9]), (9, [1, 2, 6, 9, 39]), (10, [6, 7]), (11, [1, 2, 6, 9, 10]), (12, [1, 2, 6, 9, 10, 47]), (13, [1, 2, 6, 9, 10]), (14, [1, 2, 6, 9, 10]), (15, [6, 7])]
abbrev lv67BdS : List (Nat × List Nat) := [(0, [1, 2]), (1, [1, 5]), (2, [1, 5, 13]), (3, [4]), (4, [20]), (5, [4]), (6, [4])]
abbrev lv68BdS : List (Nat × List Nat) := [(0, [1, 2, 3, 6]), (1, [1, 2, 3, 6, 8]), (2, [1, 2, 3, 6, 8, 15]), (3, [6, 7]), (4, [1, 2, 3, 6, 24]), (5, [6, 7]), (6, [1, 2, 3, 6, 30]), (7, [6, 7]), (8, [1, 2, 6, 9]), (9, [1, 2, 6, 9, 39]), (10, [6, 7]), (11, [1, 2, 6, 9, 10]), (12, [1, 2, 6, 9, 10, 47]), (13, [1, 2, 6, 9, 10]), (14, [1, 2, 6, 9, 10]), (15, [6, 7])]
def rasksS : Spec := { rel := fun args ins res outs => ∃ (n : Int) (l : List Bi) (k : Int), l.length ≤ 1000000 ∧ args = [zv n l, iv k] ∧ ins = [] ∧ res = iv (askE n l k) ∧ outs = [] }
theorem rasks_at (n : Int) (l : List Bi) (k : Int) (h : l.length ≤ 1000000) : rasksS.rel [zv n l, iv k] [] (iv (askE n l k)) [] := ⟨n, l, k, h, rfl, rfl, rfl, rfl⟩
set_option maxHeartbeats 1000000 in
theorem rasks_ok : Ok Try.prog 67 rasksS := by
  refine fn_ok rasksS Try.func67 rfl rfl ?_
  rintro args ins res outs ⟨n, l, k, hl, rfl, rfl, rfl, rfl⟩
  refine ⟨by simp [Try.ntmps67], fun w0 V Bo mu0 => ?_⟩
  by_cases h1 : (zchk n l).1 = 0
  · by_cases h2 : k < 0
    · rw [askE_ord h1 (.inl h2)]
      repeat' (first
        | (with_reducible first | refine W_seq ?_ | refine W_condT rfl ?_ | refine W_condF rfl ?_ | refine W_tf rfl (fun h => ?_) (fun h => ?_) | refine endQ_ret ?_ | refine endQ_normal ?_)
        | ((with_reducible first | refine hK _ ?_ | refine hK _ _ ?_); clear hK K)
        | ((first | (with_reducible first | refine ops_cons (fun K hK => ?_) | refine ops_nil ?_) | with_reducible refine callV_snap ?_ | ((with_reducible refine call_go rCheckS rCheck_ok ?_); refine ⟨(by first | exact alOk_nil _ | exact alOk_f rfl), _, _, rCheck_at _ _ hl, ?_⟩) | (with_reducible first | refine W_reg lv67BdS ?_ | refine W_skip ?_ | refine W_ret ?_ | refine end_at0 ?_) | (with_reducible refine And.intro (fun h => ?_) (fun h => ?_)) | (with_reducible refine And.intro (by omega) ?_)); (try simp only [go_sem, seval, reduceCtorEq, h1, h2, lv67BdS, Try.ntmps67, Try.results67, rasksS]))
        | fail)
    · by_cases h3 : 6 < k
      · rw [askE_ord h1 (.inr h3)]
        repeat' (first
          | (with_reducible first | refine W_seq ?_ | refine W_condT rfl ?_ | refine W_condF rfl ?_ | refine W_tf rfl (fun h => ?_) (fun h => ?_) | refine endQ_ret ?_ | refine endQ_normal ?_)
          | ((with_reducible first | refine hK _ ?_ | refine hK _ _ ?_); clear hK K)
          | ((first | (with_reducible first | refine ops_cons (fun K hK => ?_) | refine ops_nil ?_) | with_reducible refine callV_snap ?_ | ((with_reducible refine call_go rCheckS rCheck_ok ?_); refine ⟨(by first | exact alOk_nil _ | exact alOk_f rfl), _, _, rCheck_at _ _ hl, ?_⟩) | (with_reducible first | refine W_reg lv67BdS ?_ | refine W_skip ?_ | refine W_ret ?_ | refine end_at0 ?_) | (with_reducible refine And.intro (fun h => ?_) (fun h => ?_)) | (with_reducible refine And.intro (by omega) ?_)); (try simp only [go_sem, seval, reduceCtorEq, h1, h2, h3, lv67BdS, Try.ntmps67, Try.results67, rasksS]))
          | fail)
      · rw [askE_ok h1 (by omega)]
        repeat' (first
          | (with_reducible first | refine W_seq ?_ | refine W_condT rfl ?_ | refine W_condF rfl ?_ | refine W_tf rfl (fun h => ?_) (fun h => ?_) | refine endQ_ret ?_ | refine endQ_normal ?_)
          | ((with_reducible first | refine hK _ ?_ | refine hK _ _ ?_); clear hK K)
          | ((first | (with_reducible first | refine ops_cons (fun K hK => ?_) | refine ops_nil ?_) | with_reducible refine callV_snap ?_ | ((with_reducible refine call_go rCheckS rCheck_ok ?_); refine ⟨(by first | exact alOk_nil _ | exact alOk_f rfl), _, _, rCheck_at _ _ hl, ?_⟩) | (with_reducible first | refine W_reg lv67BdS ?_ | refine W_skip ?_ | refine W_ret ?_ | refine end_at0 ?_) | (with_reducible refine And.intro (fun h => ?_) (fun h => ?_)) | (with_reducible refine And.intro (by omega) ?_)); (try simp only [go_sem, seval, reduceCtorEq, h1, h2, h3, lv67BdS, Try.ntmps67, Try.results67, rasksS]))
          | fail)
  · rw [askE_chk h1]
    repeat' (first
      | (with_reducible first | refine W_seq ?_ | refine W_condT rfl ?_ | refine W_condF rfl ?_ | refine W_tf rfl (fun h => ?_) (fun h => ?_) | refine endQ_ret ?_ | refine endQ_normal ?_)
      | ((with_reducible first | refine hK _ ?_ | refine hK _ _ ?_); clear hK K)
      | ((first | (with_reducible first | refine ops_cons (fun K hK => ?_) | refine ops_nil ?_) | with_reducible refine callV_snap ?_ | ((with_reducible refine call_go rCheckS rCheck_ok ?_); refine ⟨(by first | exact alOk_nil _ | exact alOk_f rfl), _, _, rCheck_at _ _ hl, ?_⟩) | (with_reducible first | refine W_reg lv67BdS ?_ | refine W_skip ?_ | refine W_ret ?_ | refine end_at0 ?_) | (with_reducible refine And.intro (fun h => ?_) (fun h => ?_)) | (with_reducible refine And.intro (by omega) ?_)); (try simp only [go_sem, seval, reduceCtorEq, h1, lv67BdS, Try.ntmps67, Try.results67, rasksS]))
      | fail)
abbrev rasksVS : Spec := rasksS
theorem rasksV_ok : Ok Try.prog 67 rasksVS := rasks_ok
theorem rasksV_at (N : Nat) (m : List Bl) (k : Nat) (h : Vz N m) (hk : k ≤ 6) : rasksVS.rel [.agg [iv N, dN m], iv k] [] (iv 0) [] := by
  have := rasks_at (N : Int) (m.map toI) (k : Int) h.len6
  rwa [zv_toI, h.ask hk] at this
abbrev withinVS : Spec := withinS
theorem withinV_ok : Ok Try.prog 75 withinVS := within_ok
theorem withinV_at (N : Nat) (m : List Bl) (w k : Nat) (h : Vb N m w k) : withinVS.rel [iv N, .agg [iv w, iv k]] [] (bv true) [] := by
  obtain ⟨b1, b2, b3⟩ := h.b
  have hn := h.z.v.n
  dsimp only at b1 b2 b3
  exact withinY_at (N : Int) w k (by omega) (by omega) (by omega) (by omega) (by rw [Int.toNat_natCast, pow_nat]; omega)

def NewS : Spec := { rel := fun args ins res outs => (∃ n : Int, (n < 0 ∨ 256 < n) ∧ args = [iv n] ∧ ins = [] ∧ res = .tup [.agg [iv 0, .nil], iv 2] ∧ outs = []) ∨
  ∃ N : Nat, N ≤ 256 ∧ args = [iv N] ∧ ins = [] ∧ res = .tup [.agg [iv N, .row 0 2 0 (bld N (fun i => decide (i < N))).length], iv 0] ∧ outs = [.rows 87 2 ((bld N (fun i => decide (i < N))).map encN)] }
set_option maxHeartbeats 4000000 in
theorem rNew_ok : Ok Try.prog 48 NewS := by
  refine fn_ok NewS Try.func48 rfl rfl ?_
  rintro args ins res outs (⟨n, hn, rfl, rfl, rfl, rfl⟩ | ⟨N, hN, rfl, rfl, rfl, rfl⟩)
  all_goals refine ⟨by simp [Try.ntmps48], fun w0 V Bo mu0 => ?_⟩
  · by_cases h1 : n < 0
    · skip
      repeat' (first
        | (with_reducible first | refine W_seq ?_ | refine W_condT rfl ?_ | refine W_condF rfl ?_ | refine W_tf rfl (fun h => ?_) (fun h => ?_) | refine W_block ?_ | refine endQ_ret ?_ | refine endQ_normal ?_)
        | ((with_reducible first | refine hK _ ?_ | refine hK _ _ ?_); clear hK K)
        | ((first | (with_reducible first | refine ops_cons (fun K hK => ?_) | refine ops_nil ?_ | refine fit_i64 (by omega) ?_ | refine fit_any ?_) | with_reducible refine callV_snap ?_ | (with_reducible first | refine idx_map (by omega) ?_ | refine W_reg lv48BdS ?_ | refine W_skip ?_ | refine W_exit ?_ | refine W_ret ?_ | refine end_at0 ?_) | (with_reducible refine And.intro (fun h => ?_) (fun h => ?_)) | (with_reducible refine And.intro (by omega) ?_)); (try simp only [go_sem, seval, reduceCtorEq, h1, lv48BdS, Try.ntmps48, Try.results48, NewS]))
        | fail)
    · have h2 : 256 < n := by omega
      repeat' (first
        | (with_reducible first | refine W_seq ?_ | refine W_condT rfl ?_ | refine W_condF rfl ?_ | refine W_tf rfl (fun h => ?_) (fun h => ?_) | refine W_block ?_ | refine endQ_ret ?_ | refine endQ_normal ?_)
        | ((with_reducible first | refine hK _ ?_ | refine hK _ _ ?_); clear hK K)
        | ((first | (with_reducible first | refine ops_cons (fun K hK => ?_) | refine ops_nil ?_ | refine fit_i64 (by omega) ?_ | refine fit_any ?_) | with_reducible refine callV_snap ?_ | (with_reducible first | refine idx_map (by omega) ?_ | refine W_reg lv48BdS ?_ | refine W_skip ?_ | refine W_exit ?_ | refine W_ret ?_ | refine end_at0 ?_) | (with_reducible refine And.intro (fun h => ?_) (fun h => ?_)) | (with_reducible refine And.intro (by omega) ?_)); (try simp only [go_sem, seval, reduceCtorEq, h1, h2, lv48BdS, Try.ntmps48, Try.results48, NewS]))
        | fail)
  · have h1 : ¬ (N : Int) < 0 := by omega
    have h2 : ¬ 256 < (N : Int) := by omega
    have hz := bl_zero N
    repeat' (first
      | (with_reducible first | refine W_seq ?_ | refine W_condT rfl ?_ | refine W_condF rfl ?_ | refine W_tf rfl (fun h => ?_) (fun h => ?_) | refine W_block ?_ | refine endQ_ret ?_ | refine endQ_normal ?_)
      | ((with_reducible first | refine hK _ ?_ | refine hK _ _ ?_); clear hK K)
      | ((first | (with_reducible first | refine ops_cons (fun K hK => ?_) | refine ops_nil ?_ | refine fit_i64 (by omega) ?_ | refine fit_any ?_) | with_reducible refine callV_snap ?_ | (with_reducible first | refine idx_map (by omega) ?_ | refine W_reg lv48BdS ?_ | refine W_skip ?_ | refine W_exit ?_ | refine W_ret ?_ | refine end_at0 ?_) | (with_reducible refine And.intro (fun h => ?_) (fun h => ?_)) | (with_reducible refine And.intro (by omega) ?_)); (try simp only [go_sem, seval, reduceCtorEq, h1, h2, lv48BdS, Try.ntmps48, Try.results48, NewS]))
      | fail)
    refine W_loop (fun x : Nat × (Nat → Bool) => ⟨[(0, iv N), (2, .ptr 0 0), (4, .row 1 1 0 N), (5, iv x.1)], [some (.box 59 [iv 0, .nil]), some (.rows 4 1 ((bl N x.2).map encDB))]⟩) (fun x => x.1 ≤ N ∧ ∀ j, j < x.1 → x.2 j = true) (fun x => N - x.1) (0, fun _ => false) ⟨Nat.zero_le _, fun j h => by dsimp only at h; omega⟩ [0, 1] ?_ ?_
    · simp [go_sem]
      exact hz
    rintro ⟨i, g⟩ ⟨hi, hg⟩
    dsimp only at hi hg
    by_cases hlt : i < N
    · have hki : (i : Int) < N := by omega
      have hlb : i < (bl N g).length := by rw [bl_len]; exact hlt
      have hset : ((bl N g).map encDB).set i [.bool true] = (bl N (upF g i true)).map encDB := by rw [← bl_set hlt, List.map_set]; rfl
      repeat' (first
        | (with_reducible first | refine W_seq ?_ | refine W_condT rfl ?_ | refine W_condF rfl ?_ | refine W_tf rfl (fun h => ?_) (fun h => ?_) | refine W_block ?_ | refine endQ_ret ?_ | refine endQ_normal ?_)
        | ((with_reducible first | refine hK _ ?_ | refine hK _ _ ?_); clear hK K)
        | ((with_reducible refine idx_map2 hlb ?_); simp only [go_sem, seval, reduceCtorEq, encDB_len, hset])
        | ((first | (with_reducible first | refine ops_cons (fun K hK => ?_) | refine ops_nil ?_ | refine fit_i64 (by omega) ?_ | refine fit_any ?_) | with_reducible refine callV_snap ?_ | (with_reducible first | refine idx_map (by omega) ?_ | refine W_reg lv48BdS ?_ | refine W_skip ?_ | refine W_exit ?_ | refine W_ret ?_ | refine end_at0 ?_) | (with_reducible refine And.intro (fun h => ?_) (fun h => ?_)) | (with_reducible refine And.intro (by omega) ?_)); (try simp only [go_sem, seval, reduceCtorEq, hki, hset, lv48BdS, Try.ntmps48, Try.results48, NewS]))
        | fail)
      refine ⟨(i + 1, upF g i true), [0, 1], ⟨hlt, fun j hj => ?_⟩, by dsimp only; omega, ?_⟩
      · dsimp only at hj ⊢
        unfold upF
        split
        · rfl
        · exact hg j (by omega)
      · simp [go_sem]
        exact hset
    · have hki : ¬ (i : Int) < N := by omega
      obtain rfl : i = N := by omega
      have e : bl i g = bl i (fun j => decide (j < i)) := bl_congr (fun j hj => by rw [hg j hj]; simp [hj])
      rw [e]
      have htk : List.take i ((bl i (fun j => decide (j < i))).map encDB) = (bl i (fun j => decide (j < i))).map encDB := List.take_of_length_le (by simp [bl_len])
      repeat' (first
        | (with_reducible first | refine W_seq ?_ | refine W_condT rfl ?_ | refine W_condF rfl ?_ | refine W_tf rfl (fun h => ?_) (fun h => ?_) | refine W_block ?_ | refine endQ_ret ?_ | refine endQ_normal ?_)
        | ((with_reducible first | refine hK _ ?_ | refine hK _ _ ?_); clear hK K)
        | ((first | (with_reducible first | refine ops_cons (fun K hK => ?_) | refine ops_nil ?_ | refine fit_i64 (by omega) ?_ | refine fit_any ?_) | with_reducible refine callV_snap ?_ | ((with_reducible refine call_go rbuiltS rbuilt_ok ?_); refine ⟨(by first | exact alOk_nil _ | exact alOk_f rfl), _, _, rbuilt_at i (fun j => decide (j < i)) hN, ?_⟩) | (with_reducible first | refine idx_map (by omega) ?_ | refine W_reg lv48BdS ?_ | refine W_skip ?_ | refine W_exit ?_ | refine end_at0 ?_) | (with_reducible refine And.intro (fun h => ?_) (fun h => ?_)) | (with_reducible refine And.intro (by omega) ?_)); (try simp only [go_sem, seval, reduceCtorEq, hki, htk, bl_len, lv48BdS, Try.ntmps48, Try.results48, NewS]))
        | fail)
      refine W_ret (endQ_ret (end_at [2] ?_))
      simp [go_sem, Try.results48, NewS]
      simpa [flatD, encN] using encNe.flat (bld i (fun j => decide (j < i)))

abbrev rTakeS : Spec := TakeS
theorem allfr_allR {N : Nat} {m : List Bl} {w k : Nat} (h : Vb N m w k) : allR N (frM m) w (2 ^ k) true = true ↔ Allfr m w k := by
  have hb := h.b.2.1
  dsimp only at hb
  unfold allR Allfr
  rw [decide_eq_true hb, Bool.true_and, allWn_iff]
  constructor
  · intro ha i hi
    obtain ⟨i1, i2⟩ := inb_iff.1 hi
    exact ha i i1 i2
  · intro ha i i1 i2
    exact ha i (inb_iff.2 ⟨i1, i2⟩)
theorem nofr_allR {N : Nat} {m : List Bl} {w k : Nat} (h : Vb N m w k) : allR N (frM m) w (2 ^ k) false = true ↔ Nofr m w k := by
  have hb := h.b.2.1
  dsimp only at hb
  unfold allR Nofr
  rw [decide_eq_true hb, Bool.true_and, allWn_iff]
  constructor
  · intro ha i hi
    obtain ⟨i1, i2⟩ := inb_iff.1 hi
    exact ha i i1 i2
  · intro ha i i1 i2
    exact ha i (inb_iff.2 ⟨i1, i2⟩)
set_option maxHeartbeats 16000000 in
theorem rFree_ok : Ok Try.prog 64 FreeS := by
  refine fn_ok FreeS Try.func64 rfl rfl ?_
  intro args ins res outs hrel
  refine ⟨?_, ?_⟩
  · rcases hrel with ⟨n, l, a, k, hl, hc, rfl, rfl, rfl, rfl⟩ | ⟨N, m, w, k, hv, hno, rfl, rfl, rfl, rfl⟩ | ⟨N, m, w, k, hv, hno, rfl, rfl, rfl, rfl⟩ <;> simp [Try.ntmps64]
  intro w0 V Bo mu0
  rcases hrel with ⟨n, l, a, k, hl, hc, rfl, rfl, rfl, rfl⟩ | hrel
  · by_cases h1 : askE n l k = 0
    case neg =>
      rw [askB_ask h1]
      repeat' (first
        | (with_reducible first | refine W_seq ?_ | refine W_condT rfl ?_ | refine W_condF rfl ?_ | refine W_tf rfl (fun h => ?_) (fun h => ?_) | refine W_block ?_ | refine endQ_ret ?_ | refine endQ_normal ?_)
        | ((with_reducible first | refine hK _ ?_ | refine hK _ _ ?_); clear hK K)
        | ((first | (with_reducible first | refine ops_cons (fun K hK => ?_) | refine ops_nil ?_ | refine fit_i64 (by omega) ?_ | refine fit_any ?_ | refine rem_nn (by omega) ?_ | refine rem_any ?_) | with_reducible refine callV_snap ?_ | ((with_reducible refine call_go rasksS rasks_ok ?_); refine ⟨(by first | exact alOk_nil _ | exact alOk_f rfl), _, _, rasks_at _ _ _ hl, ?_⟩) | (with_reducible first | refine idx_map (by omega) ?_ | refine W_reg lv64BdS ?_ | refine W_skip ?_ | refine W_exit ?_ | refine W_ret ?_ | refine end_at0 ?_) | (with_reducible refine And.intro (fun h => ?_) (fun h => ?_)) | (with_reducible refine And.intro (by omega) ?_)); (try simp only [go_sem, seval, reduceCtorEq, h1, lv64BdS, Try.ntmps64, Try.results64, FreeS]))
        | fail)
    obtain ⟨h1a, h1b⟩ := askE_zero h1
    have hz := zchk_val h1a
    have n0 := hz.n0
    have n1 := hz.n1
    have k0 : 0 ≤ k := by omega
    have k1 : k ≤ 6 := by omega
    have hp := pow64 k k0 k1
    by_cases h2 : a < 0 ∨ n - 2 ^ k.toNat < a
    · rw [askB_rng h1 h2]
      repeat' (first
        | (with_reducible first | refine W_seq ?_ | refine W_condT rfl ?_ | refine W_condF rfl ?_ | refine W_tf rfl (fun h => ?_) (fun h => ?_) | refine W_block ?_ | refine endQ_ret ?_ | refine endQ_normal ?_)
        | ((with_reducible first | refine hK _ ?_ | refine hK _ _ ?_); clear hK K)
        | ((first | (with_reducible first | refine ops_cons (fun K hK => ?_) | refine ops_nil ?_ | refine fit_i64 (by omega) ?_ | refine fit_any ?_ | refine rem_nn (by omega) ?_ | refine rem_any ?_) | with_reducible refine callV_snap ?_ | ((with_reducible refine call_go rasksS rasks_ok ?_); refine ⟨(by first | exact alOk_nil _ | exact alOk_f rfl), _, _, rasks_at _ _ _ hl, ?_⟩) | ((with_reducible refine call_go withinNS withinN_ok ?_); refine ⟨(by first | exact alOk_nil _ | exact alOk_f rfl), _, _, withinN_at _ _ _ n0 n1 k0 k1 h2, ?_⟩) | (with_reducible first | refine idx_map (by omega) ?_ | refine W_reg lv64BdS ?_ | refine W_skip ?_ | refine W_exit ?_ | refine W_ret ?_ | refine end_at0 ?_) | (with_reducible refine And.intro (fun h => ?_) (fun h => ?_)) | (with_reducible refine And.intro (by omega) ?_)); (try simp only [go_sem, seval, reduceCtorEq, h1, lv64BdS, Try.ntmps64, Try.results64, FreeS]))
        | fail)
    have h4 : ¬ a % 2 ^ k.toNat = 0 := fun h => hc (askB_ok h1 h2 h)
    rw [askB_al h1 h2 h4]
    repeat' (first
      | (with_reducible first | refine W_seq ?_ | refine W_condT rfl ?_ | refine W_condF rfl ?_ | refine W_tf rfl (fun h => ?_) (fun h => ?_) | refine W_block ?_ | refine endQ_ret ?_ | refine endQ_normal ?_)
      | ((with_reducible first | refine hK _ ?_ | refine hK _ _ ?_); clear hK K)
      | ((first | (with_reducible first | refine ops_cons (fun K hK => ?_) | refine ops_nil ?_ | refine fit_i64 (by omega) ?_ | refine fit_any ?_ | refine rem_nn (by omega) ?_ | refine rem_any ?_) | with_reducible refine callV_snap ?_ | ((with_reducible refine call_go rasksS rasks_ok ?_); refine ⟨(by first | exact alOk_nil _ | exact alOk_f rfl), _, _, rasks_at _ _ _ hl, ?_⟩) | ((with_reducible refine call_go withinYS withinY_ok ?_); refine ⟨(by first | exact alOk_nil _ | exact alOk_f rfl), _, _, withinY_at _ _ _ n0 n1 k0 k1 h2, ?_⟩) | ((with_reducible refine call_go rsizeS rsize_ok ?_); refine ⟨(by first | exact alOk_nil _ | exact alOk_f rfl), _, _, rsize_at _ k0 k1, ?_⟩) | (with_reducible first | refine idx_map (by omega) ?_ | refine W_reg lv64BdS ?_ | refine W_skip ?_ | refine W_exit ?_ | refine W_ret ?_ | refine end_at0 ?_) | (with_reducible refine And.intro (fun h => ?_) (fun h => ?_)) | (with_reducible refine And.intro (by omega) ?_)); (try simp only [go_sem, seval, reduceCtorEq, h1, h4, lv64BdS, Try.ntmps64, Try.results64, FreeS]))
      | fail)
  have key : ∃ (N : Nat) (m : List Bl) (w k : Nat), Vb N m w k ∧ args = [.agg [iv N, dN m], iv w, iv k] ∧ ins = [] ∧ (¬ Nofr m w k ∧ res = .tup [.agg [iv 0, .nil], iv 7] ∧ outs = [] ∨
      Nofr m w k ∧ res = .tup [.agg [iv N, .row 0 2 0 (bld N (frF m w k)).length], iv 0] ∧ outs = [.rows 87 2 ((bld N (frF m w k)).map encN)]) := by
    rcases hrel with ⟨N, m, w, k, hv, hno, rfl, rfl, rfl, rfl⟩ | ⟨N, m, w, k, hv, hno, rfl, rfl, rfl, rfl⟩
    · exact ⟨N, m, w, k, hv, rfl, rfl, .inl ⟨hno, rfl, rfl⟩⟩
    · exact ⟨N, m, w, k, hv, rfl, rfl, .inr ⟨hno, rfl, rfl⟩⟩
  clear hrel
  obtain ⟨N, m, w, k, hv, rfl, rfl, hout⟩ := key
  rw [← nofr_allR hv] at hout
  obtain ⟨b1, b2, b3⟩ := hv.b
  dsimp only at b1 b2 b3
  have hn := hv.z.v.n
  have hpk := p64 k b1
  have hw256 : w ≤ 256 := by omega
  have hL := bl_len N (frM m)
  have hmod : (w : Int) % ((2 ^ k : Nat) : Int) = 0 := by rw [← Int.natCast_emod, b3]; rfl
  have hne : ¬ ((2 ^ k : Nat) : Int) = 0 := by omega
  have hsum : (w : Int) + ((2 ^ k : Nat) : Int) = ((w + 2 ^ k : Nat) : Int) := by omega
  have htk : List.take N ((bl N (frM m)).map encDB) = (bl N (frM m)).map encDB := List.take_of_length_le (by simp [bl_len])
  rcases hout with ⟨hA, rfl, rfl⟩ | ⟨hA, rfl, rfl⟩
  · have hA : allR N (frM m) w (2 ^ k) false = false := by simpa using hA
    repeat' (first
      | (with_reducible first | refine W_seq ?_ | refine W_condT rfl ?_ | refine W_condF rfl ?_ | refine W_tf rfl (fun h => ?_) (fun h => ?_) | refine W_block ?_ | refine endQ_ret ?_ | refine endQ_normal ?_)
      | ((with_reducible first | refine hK _ ?_ | refine hK _ _ ?_); clear hK K)
      | ((first | (with_reducible first | refine ops_cons (fun K hK => ?_) | refine ops_nil ?_ | refine fit_i64 (by omega) ?_ | refine fit_any ?_ | refine rem_nn (by omega) ?_ | refine rem_any ?_) | with_reducible refine callV_snap ?_ | ((with_reducible refine call_go rasksVS rasksV_ok ?_); refine ⟨(by first | exact alOk_nil _ | exact alOk_f rfl), _, _, rasksV_at _ _ _ hv.z b1, ?_⟩) | ((with_reducible refine call_go withinVS withinV_ok ?_); refine ⟨(by first | exact alOk_nil _ | exact alOk_f rfl), _, _, withinV_at _ _ _ _ hv, ?_⟩) | ((with_reducible refine call_go nsizeS nsize_ok ?_); refine ⟨(by first | exact alOk_nil _ | exact alOk_f rfl), _, _, nsize_at _ b1, ?_⟩) | ((with_reducible refine call_go rframesS rframes_ok ?_); refine ⟨(by first | exact alOk_nil _ | exact alOk_f rfl), _, _, rframes_at _ _ hv.z.v, ?_⟩) | ((with_reducible refine call_go rall0S rall0_ok ?_); refine ⟨(by first | exact alOk_nil _ | exact alOk_f rfl), _, _, rall0_at N (frM m) w (2 ^ k) hn hw256 hpk.2, ?_⟩) | (with_reducible first | refine idx_map (by omega) ?_ | refine W_reg lv64BdS ?_ | refine W_skip ?_ | refine W_exit ?_ | refine W_ret ?_ | refine end_at0 ?_) | (with_reducible refine And.intro (fun h => ?_) (fun h => ?_)) | (with_reducible refine And.intro (by omega) ?_)); (try simp only [go_sem, seval, reduceCtorEq, hmod, hne, hA, htk, lv64BdS, Try.ntmps64, Try.results64, FreeS]))
      | fail)
  repeat' (first
    | (with_reducible first | refine W_seq ?_ | refine W_condT rfl ?_ | refine W_condF rfl ?_ | refine W_tf rfl (fun h => ?_) (fun h => ?_) | refine W_block ?_ | refine endQ_ret ?_ | refine endQ_normal ?_)
    | ((with_reducible first | refine hK _ ?_ | refine hK _ _ ?_); clear hK K)
    | ((first | (with_reducible first | refine ops_cons (fun K hK => ?_) | refine ops_nil ?_ | refine fit_i64 (by omega) ?_ | refine fit_any ?_ | refine rem_nn (by omega) ?_ | refine rem_any ?_) | with_reducible refine callV_snap ?_ | ((with_reducible refine call_go rasksVS rasksV_ok ?_); refine ⟨(by first | exact alOk_nil _ | exact alOk_f rfl), _, _, rasksV_at _ _ _ hv.z b1, ?_⟩) | ((with_reducible refine call_go withinVS withinV_ok ?_); refine ⟨(by first | exact alOk_nil _ | exact alOk_f rfl), _, _, withinV_at _ _ _ _ hv, ?_⟩) | ((with_reducible refine call_go nsizeS nsize_ok ?_); refine ⟨(by first | exact alOk_nil _ | exact alOk_f rfl), _, _, nsize_at _ b1, ?_⟩) | ((with_reducible refine call_go rframesS rframes_ok ?_); refine ⟨(by first | exact alOk_nil _ | exact alOk_f rfl), _, _, rframes_at _ _ hv.z.v, ?_⟩) | ((with_reducible refine call_go rall0S rall0_ok ?_); refine ⟨(by first | exact alOk_nil _ | exact alOk_f rfl), _, _, rall0_at N (frM m) w (2 ^ k) hn hw256 hpk.2, ?_⟩) | (with_reducible first | refine idx_map (by omega) ?_ | refine W_reg lv64BdS ?_ | refine W_skip ?_ | refine W_exit ?_ | refine W_ret ?_ | refine end_at0 ?_) | (with_reducible refine And.intro (fun h => ?_) (fun h => ?_)) | (with_reducible refine And.intro (by omega) ?_)); (try simp only [go_sem, seval, reduceCtorEq, hmod, hne, hA, htk, lv64BdS, Try.ntmps64, Try.results64, FreeS]))
    | fail)
  refine W_loop (fun x : Nat × (Nat → Bool) => ⟨[(1, iv w), (2, iv k), (6, .ptr 0 0), (9, .row 1 1 0 N), (10, iv x.1)], [some (.box 59 [iv 0, .nil]), some (.rows 4 1 ((bl N x.2).map encDB))]⟩) (fun x => w ≤ x.1 ∧ x.1 ≤ w + 2 ^ k ∧ ∀ j, j < N → x.2 j = if w ≤ j ∧ j < x.1 then true else frM m j) (fun x => w + 2 ^ k - x.1) (w, frM m) ⟨Nat.le_refl _, by dsimp only; omega, fun j hj => by dsimp only; rw [if_neg (by omega)]⟩ [1, 2] ?_ ?_
  · simp [go_sem]
  rintro ⟨i, g⟩ ⟨hi0, hi, hg⟩
  dsimp only at hi0 hi hg
  by_cases hlt : i < w + 2 ^ k
  · have hki : (i : Int) < ((w + 2 ^ k : Nat) : Int) := by omega
    have hiN : i < N := by omega
    have hiN2 : (i : Int) < N := by omega
    have hlb : i < (bl N g).length := by rw [bl_len]; exact hiN
    have hset : ((bl N g).map encDB).set i [.bool true] = (bl N (upF g i true)).map encDB := by rw [← bl_set hiN, List.map_set]; rfl
    repeat' (first
      | (with_reducible first | refine W_seq ?_ | refine W_condT rfl ?_ | refine W_condF rfl ?_ | refine W_tf rfl (fun h => ?_) (fun h => ?_) | refine W_block ?_ | refine endQ_ret ?_ | refine endQ_normal ?_)
      | ((with_reducible first | refine hK _ ?_ | refine hK _ _ ?_); clear hK K)
      | ((with_reducible refine idx_map2 hlb ?_); simp only [go_sem, seval, reduceCtorEq, encDB_len, hset])
      | ((first | (with_reducible first | refine ops_cons (fun K hK => ?_) | refine ops_nil ?_ | refine fit_i64 (by omega) ?_ | refine fit_any ?_ | refine rem_nn (by omega) ?_ | refine rem_any ?_) | with_reducible refine callV_snap ?_ | ((with_reducible refine call_go nsizeS nsize_ok ?_); refine ⟨(by first | exact alOk_nil _ | exact alOk_f rfl), _, _, nsize_at _ b1, ?_⟩) | (with_reducible first | refine idx_map (by omega) ?_ | refine W_reg lv64BdS ?_ | refine W_skip ?_ | refine W_exit ?_ | refine W_ret ?_ | refine end_at0 ?_) | (with_reducible refine And.intro (fun h => ?_) (fun h => ?_)) | (with_reducible refine And.intro (by omega) ?_)); (try simp only [go_sem, seval, reduceCtorEq, hki, hiN2, hsum, hset, lv64BdS, Try.ntmps64, Try.results64, FreeS]))
      | fail)
    refine ⟨(i + 1, upF g i true), [0, 1], ⟨by dsimp only; omega, hlt, fun j hj => ?_⟩, by dsimp only; omega, ?_⟩
    · unfold upF
      dsimp only
      by_cases e : j = i
      · rw [if_pos e, if_pos (by omega)]
      · rw [if_neg e, hg j hj]
        by_cases e2 : w ≤ j ∧ j < i
        · rw [if_pos e2, if_pos (by omega)]
        · rw [if_neg e2, if_neg (by omega)]
    · simp [go_sem]
      exact hset
  · have hki : ¬ (i : Int) < ((w + 2 ^ k : Nat) : Int) := by omega
    obtain rfl : i = w + 2 ^ k := by omega
    have e : bl N g = bl N (frF m w k) := bl_congr (fun j hj => by
      rw [hg j hj]
      unfold frF inb
      by_cases h : w ≤ j ∧ j < w + 2 ^ k
      · rw [if_pos h, decide_eq_true h.1, decide_eq_true h.2]; simp
      · rw [if_neg h]
        by_cases h2 : w ≤ j
        · rw [decide_eq_false (show ¬ j < w + 2 ^ k from fun h3 => h ⟨h2, h3⟩)]; simp
        · rw [decide_eq_false h2]; simp)
    rw [e]
    have htk2 : List.take N ((bl N (frF m w k)).map encDB) = (bl N (frF m w k)).map encDB := List.take_of_length_le (by simp [bl_len])
    repeat' (first
      | (with_reducible first | refine W_seq ?_ | refine W_condT rfl ?_ | refine W_condF rfl ?_ | refine W_tf rfl (fun h => ?_) (fun h => ?_) | refine W_block ?_ | refine endQ_ret ?_ | refine endQ_normal ?_)
      | ((with_reducible first | refine hK _ ?_ | refine hK _ _ ?_); clear hK K)
      | ((first | (with_reducible first | refine ops_cons (fun K hK => ?_) | refine ops_nil ?_ | refine fit_i64 (by omega) ?_ | refine fit_any ?_ | refine rem_nn (by omega) ?_ | refine rem_any ?_) | with_reducible refine callV_snap ?_ | ((with_reducible refine call_go nsizeS nsize_ok ?_); refine ⟨(by first | exact alOk_nil _ | exact alOk_f rfl), _, _, nsize_at _ b1, ?_⟩) | ((with_reducible refine call_go rbuiltS rbuilt_ok ?_); refine ⟨(by first | exact alOk_nil _ | exact alOk_f rfl), _, _, rbuilt_at N (frF m w k) hn, ?_⟩) | (with_reducible first | refine idx_map (by omega) ?_ | refine W_reg lv64BdS ?_ | refine W_skip ?_ | refine W_exit ?_ | refine end_at0 ?_) | (with_reducible refine And.intro (fun h => ?_) (fun h => ?_)) | (with_reducible refine And.intro (by omega) ?_)); (try simp only [go_sem, seval, reduceCtorEq, hki, hsum, htk2, bl_len, lv64BdS, Try.ntmps64, Try.results64, FreeS]))
      | fail)
    refine W_ret (endQ_ret (end_at [2] ?_))
    simp [go_sem, Try.results64, FreeS]
    simpa [flatD, encN] using encNe.flat (bld N (frF m w k))
set_option maxHeartbeats 16000000 in
theorem rTake_ok : Ok Try.prog 68 TakeS := by
  refine fn_ok TakeS Try.func68 rfl rfl ?_
  intro args ins res outs hrel
  refine ⟨?_, ?_⟩
  · rcases hrel with ⟨n, l, a, k, hl, hc, rfl, rfl, rfl, rfl⟩ | ⟨N, m, w, k, hv, hno, rfl, rfl, rfl, rfl⟩ | ⟨N, m, w, k, hv, hno, rfl, rfl, rfl, rfl⟩ <;> simp [Try.ntmps68]
  intro w0 V Bo mu0
  rcases hrel with ⟨n, l, a, k, hl, hc, rfl, rfl, rfl, rfl⟩ | hrel
  · by_cases h1 : askE n l k = 0
    case neg =>
      rw [askB_ask h1]
      repeat' (first
        | (with_reducible first | refine W_seq ?_ | refine W_condT rfl ?_ | refine W_condF rfl ?_ | refine W_tf rfl (fun h => ?_) (fun h => ?_) | refine W_block ?_ | refine endQ_ret ?_ | refine endQ_normal ?_)
        | ((with_reducible first | refine hK _ ?_ | refine hK _ _ ?_); clear hK K)
        | ((first | (with_reducible first | refine ops_cons (fun K hK => ?_) | refine ops_nil ?_ | refine fit_i64 (by omega) ?_ | refine fit_any ?_ | refine rem_nn (by omega) ?_ | refine rem_any ?_) | with_reducible refine callV_snap ?_ | ((with_reducible refine call_go rasksS rasks_ok ?_); refine ⟨(by first | exact alOk_nil _ | exact alOk_f rfl), _, _, rasks_at _ _ _ hl, ?_⟩) | (with_reducible first | refine idx_map (by omega) ?_ | refine W_reg lv68BdS ?_ | refine W_skip ?_ | refine W_exit ?_ | refine W_ret ?_ | refine end_at0 ?_) | (with_reducible refine And.intro (fun h => ?_) (fun h => ?_)) | (with_reducible refine And.intro (by omega) ?_)); (try simp only [go_sem, seval, reduceCtorEq, h1, lv68BdS, Try.ntmps68, Try.results68, TakeS]))
        | fail)
    obtain ⟨h1a, h1b⟩ := askE_zero h1
    have hz := zchk_val h1a
    have n0 := hz.n0
    have n1 := hz.n1
    have k0 : 0 ≤ k := by omega
    have k1 : k ≤ 6 := by omega
    have hp := pow64 k k0 k1
    by_cases h2 : a < 0 ∨ n - 2 ^ k.toNat < a
    · rw [askB_rng h1 h2]
      repeat' (first
        | (with_reducible first | refine W_seq ?_ | refine W_condT rfl ?_ | refine W_condF rfl ?_ | refine W_tf rfl (fun h => ?_) (fun h => ?_) | refine W_block ?_ | refine endQ_ret ?_ | refine endQ_normal ?_)
        | ((with_reducible first | refine hK _ ?_ | refine hK _ _ ?_); clear hK K)
        | ((first | (with_reducible first | refine ops_cons (fun K hK => ?_) | refine ops_nil ?_ | refine fit_i64 (by omega) ?_ | refine fit_any ?_ | refine rem_nn (by omega) ?_ | refine rem_any ?_) | with_reducible refine callV_snap ?_ | ((with_reducible refine call_go rasksS rasks_ok ?_); refine ⟨(by first | exact alOk_nil _ | exact alOk_f rfl), _, _, rasks_at _ _ _ hl, ?_⟩) | ((with_reducible refine call_go withinNS withinN_ok ?_); refine ⟨(by first | exact alOk_nil _ | exact alOk_f rfl), _, _, withinN_at _ _ _ n0 n1 k0 k1 h2, ?_⟩) | (with_reducible first | refine idx_map (by omega) ?_ | refine W_reg lv68BdS ?_ | refine W_skip ?_ | refine W_exit ?_ | refine W_ret ?_ | refine end_at0 ?_) | (with_reducible refine And.intro (fun h => ?_) (fun h => ?_)) | (with_reducible refine And.intro (by omega) ?_)); (try simp only [go_sem, seval, reduceCtorEq, h1, lv68BdS, Try.ntmps68, Try.results68, TakeS]))
        | fail)
    have h4 : ¬ a % 2 ^ k.toNat = 0 := fun h => hc (askB_ok h1 h2 h)
    rw [askB_al h1 h2 h4]
    repeat' (first
      | (with_reducible first | refine W_seq ?_ | refine W_condT rfl ?_ | refine W_condF rfl ?_ | refine W_tf rfl (fun h => ?_) (fun h => ?_) | refine W_block ?_ | refine endQ_ret ?_ | refine endQ_normal ?_)
      | ((with_reducible first | refine hK _ ?_ | refine hK _ _ ?_); clear hK K)
      | ((first | (with_reducible first | refine ops_cons (fun K hK => ?_) | refine ops_nil ?_ | refine fit_i64 (by omega) ?_ | refine fit_any ?_ | refine rem_nn (by omega) ?_ | refine rem_any ?_) | with_reducible refine callV_snap ?_ | ((with_reducible refine call_go rasksS rasks_ok ?_); refine ⟨(by first | exact alOk_nil _ | exact alOk_f rfl), _, _, rasks_at _ _ _ hl, ?_⟩) | ((with_reducible refine call_go withinYS withinY_ok ?_); refine ⟨(by first | exact alOk_nil _ | exact alOk_f rfl), _, _, withinY_at _ _ _ n0 n1 k0 k1 h2, ?_⟩) | ((with_reducible refine call_go rsizeS rsize_ok ?_); refine ⟨(by first | exact alOk_nil _ | exact alOk_f rfl), _, _, rsize_at _ k0 k1, ?_⟩) | (with_reducible first | refine idx_map (by omega) ?_ | refine W_reg lv68BdS ?_ | refine W_skip ?_ | refine W_exit ?_ | refine W_ret ?_ | refine end_at0 ?_) | (with_reducible refine And.intro (fun h => ?_) (fun h => ?_)) | (with_reducible refine And.intro (by omega) ?_)); (try simp only [go_sem, seval, reduceCtorEq, h1, h4, lv68BdS, Try.ntmps68, Try.results68, TakeS]))
      | fail)
  have key : ∃ (N : Nat) (m : List Bl) (w k : Nat), Vb N m w k ∧ args = [.agg [iv N, dN m], iv w, iv k] ∧ ins = [] ∧ (¬ Allfr m w k ∧ res = .tup [.agg [iv 0, .nil], iv 5] ∧ outs = [] ∨
      Allfr m w k ∧ res = .tup [.agg [iv N, .row 0 2 0 (bld N (frA m w k)).length], iv 0] ∧ outs = [.rows 87 2 ((bld N (frA m w k)).map encN)]) := by
    rcases hrel with ⟨N, m, w, k, hv, hno, rfl, rfl, rfl, rfl⟩ | ⟨N, m, w, k, hv, hno, rfl, rfl, rfl, rfl⟩
    · exact ⟨N, m, w, k, hv, rfl, rfl, .inl ⟨hno, rfl, rfl⟩⟩
    · exact ⟨N, m, w, k, hv, rfl, rfl, .inr ⟨hno, rfl, rfl⟩⟩
  clear hrel
  obtain ⟨N, m, w, k, hv, rfl, rfl, hout⟩ := key
  rw [← allfr_allR hv] at hout
  obtain ⟨b1, b2, b3⟩ := hv.b
  dsimp only at b1 b2 b3
  have hn := hv.z.v.n
  have hpk := p64 k b1
  have hw256 : w ≤ 256 := by omega
  have hL := bl_len N (frM m)
  have hmod : (w : Int) % ((2 ^ k : Nat) : Int) = 0 := by rw [← Int.natCast_emod, b3]; rfl
  have hne : ¬ ((2 ^ k : Nat) : Int) = 0 := by omega
  have hsum : (w : Int) + ((2 ^ k : Nat) : Int) = ((w + 2 ^ k : Nat) : Int) := by omega
  have htk : List.take N ((bl N (frM m)).map encDB) = (bl N (frM m)).map encDB := List.take_of_length_le (by simp [bl_len])
  rcases hout with ⟨hA, rfl, rfl⟩ | ⟨hA, rfl, rfl⟩
  · have hA : allR N (frM m) w (2 ^ k) true = false := by simpa using hA
    repeat' (first
      | (with_reducible first | refine W_seq ?_ | refine W_condT rfl ?_ | refine W_condF rfl ?_ | refine W_tf rfl (fun h => ?_) (fun h => ?_) | refine W_block ?_ | refine endQ_ret ?_ | refine endQ_normal ?_)
      | ((with_reducible first | refine hK _ ?_ | refine hK _ _ ?_); clear hK K)
      | ((first | (with_reducible first | refine ops_cons (fun K hK => ?_) | refine ops_nil ?_ | refine fit_i64 (by omega) ?_ | refine fit_any ?_ | refine rem_nn (by omega) ?_ | refine rem_any ?_) | with_reducible refine callV_snap ?_ | ((with_reducible refine call_go rasksVS rasksV_ok ?_); refine ⟨(by first | exact alOk_nil _ | exact alOk_f rfl), _, _, rasksV_at _ _ _ hv.z b1, ?_⟩) | ((with_reducible refine call_go withinVS withinV_ok ?_); refine ⟨(by first | exact alOk_nil _ | exact alOk_f rfl), _, _, withinV_at _ _ _ _ hv, ?_⟩) | ((with_reducible refine call_go nsizeS nsize_ok ?_); refine ⟨(by first | exact alOk_nil _ | exact alOk_f rfl), _, _, nsize_at _ b1, ?_⟩) | ((with_reducible refine call_go rframesS rframes_ok ?_); refine ⟨(by first | exact alOk_nil _ | exact alOk_f rfl), _, _, rframes_at _ _ hv.z.v, ?_⟩) | ((with_reducible refine call_go rall1S rall1_ok ?_); refine ⟨(by first | exact alOk_nil _ | exact alOk_f rfl), _, _, rall1_at N (frM m) w (2 ^ k) hn hw256 hpk.2, ?_⟩) | (with_reducible first | refine idx_map (by omega) ?_ | refine W_reg lv68BdS ?_ | refine W_skip ?_ | refine W_exit ?_ | refine W_ret ?_ | refine end_at0 ?_) | (with_reducible refine And.intro (fun h => ?_) (fun h => ?_)) | (with_reducible refine And.intro (by omega) ?_)); (try simp only [go_sem, seval, reduceCtorEq, hmod, hne, hA, htk, lv68BdS, Try.ntmps68, Try.results68, TakeS]))
      | fail)
  repeat' (first
    | (with_reducible first | refine W_seq ?_ | refine W_condT rfl ?_ | refine W_condF rfl ?_ | refine W_tf rfl (fun h => ?_) (fun h => ?_) | refine W_block ?_ | refine endQ_ret ?_ | refine endQ_normal ?_)
    | ((with_reducible first | refine hK _ ?_ | refine hK _ _ ?_); clear hK K)
    | ((first | (with_reducible first | refine ops_cons (fun K hK => ?_) | refine ops_nil ?_ | refine fit_i64 (by omega) ?_ | refine fit_any ?_ | refine rem_nn (by omega) ?_ | refine rem_any ?_) | with_reducible refine callV_snap ?_ | ((with_reducible refine call_go rasksVS rasksV_ok ?_); refine ⟨(by first | exact alOk_nil _ | exact alOk_f rfl), _, _, rasksV_at _ _ _ hv.z b1, ?_⟩) | ((with_reducible refine call_go withinVS withinV_ok ?_); refine ⟨(by first | exact alOk_nil _ | exact alOk_f rfl), _, _, withinV_at _ _ _ _ hv, ?_⟩) | ((with_reducible refine call_go nsizeS nsize_ok ?_); refine ⟨(by first | exact alOk_nil _ | exact alOk_f rfl), _, _, nsize_at _ b1, ?_⟩) | ((with_reducible refine call_go rframesS rframes_ok ?_); refine ⟨(by first | exact alOk_nil _ | exact alOk_f rfl), _, _, rframes_at _ _ hv.z.v, ?_⟩) | ((with_reducible refine call_go rall1S rall1_ok ?_); refine ⟨(by first | exact alOk_nil _ | exact alOk_f rfl), _, _, rall1_at N (frM m) w (2 ^ k) hn hw256 hpk.2, ?_⟩) | (with_reducible first | refine idx_map (by omega) ?_ | refine W_reg lv68BdS ?_ | refine W_skip ?_ | refine W_exit ?_ | refine W_ret ?_ | refine end_at0 ?_) | (with_reducible refine And.intro (fun h => ?_) (fun h => ?_)) | (with_reducible refine And.intro (by omega) ?_)); (try simp only [go_sem, seval, reduceCtorEq, hmod, hne, hA, htk, lv68BdS, Try.ntmps68, Try.results68, TakeS]))
    | fail)
  refine W_loop (fun x : Nat × (Nat → Bool) => ⟨[(1, iv w), (2, iv k), (6, .ptr 0 0), (9, .row 1 1 0 N), (10, iv x.1)], [some (.box 59 [iv 0, .nil]), some (.rows 4 1 ((bl N x.2).map encDB))]⟩) (fun x => w ≤ x.1 ∧ x.1 ≤ w + 2 ^ k ∧ ∀ j, j < N → x.2 j = if w ≤ j ∧ j < x.1 then false else frM m j) (fun x => w + 2 ^ k - x.1) (w, frM m) ⟨Nat.le_refl _, by dsimp only; omega, fun j hj => by dsimp only; rw [if_neg (by omega)]⟩ [1, 2] ?_ ?_
  · simp [go_sem]
  rintro ⟨i, g⟩ ⟨hi0, hi, hg⟩
  dsimp only at hi0 hi hg
  by_cases hlt : i < w + 2 ^ k
  · have hki : (i : Int) < ((w + 2 ^ k : Nat) : Int) := by omega
    have hiN : i < N := by omega
    have hiN2 : (i : Int) < N := by omega
    have hlb : i < (bl N g).length := by rw [bl_len]; exact hiN
    have hset : ((bl N g).map encDB).set i [.bool false] = (bl N (upF g i false)).map encDB := by rw [← bl_set hiN, List.map_set]; rfl
    repeat' (first
      | (with_reducible first | refine W_seq ?_ | refine W_condT rfl ?_ | refine W_condF rfl ?_ | refine W_tf rfl (fun h => ?_) (fun h => ?_) | refine W_block ?_ | refine endQ_ret ?_ | refine endQ_normal ?_)
      | ((with_reducible first | refine hK _ ?_ | refine hK _ _ ?_); clear hK K)
      | ((with_reducible refine idx_map2 hlb ?_); simp only [go_sem, seval, reduceCtorEq, encDB_len, hset])
      | ((first | (with_reducible first | refine ops_cons (fun K hK => ?_) | refine ops_nil ?_ | refine fit_i64 (by omega) ?_ | refine fit_any ?_ | refine rem_nn (by omega) ?_ | refine rem_any ?_) | with_reducible refine callV_snap ?_ | ((with_reducible refine call_go nsizeS nsize_ok ?_); refine ⟨(by first | exact alOk_nil _ | exact alOk_f rfl), _, _, nsize_at _ b1, ?_⟩) | (with_reducible first | refine idx_map (by omega) ?_ | refine W_reg lv68BdS ?_ | refine W_skip ?_ | refine W_exit ?_ | refine W_ret ?_ | refine end_at0 ?_) | (with_reducible refine And.intro (fun h => ?_) (fun h => ?_)) | (with_reducible refine And.intro (by omega) ?_)); (try simp only [go_sem, seval, reduceCtorEq, hki, hiN2, hsum, hset, lv68BdS, Try.ntmps68, Try.results68, TakeS]))
      | fail)
    refine ⟨(i + 1, upF g i false), [0, 1], ⟨by dsimp only; omega, hlt, fun j hj => ?_⟩, by dsimp only; omega, ?_⟩
    · unfold upF
      dsimp only
      by_cases e : j = i
      · rw [if_pos e, if_pos (by omega)]
      · rw [if_neg e, hg j hj]
        by_cases e2 : w ≤ j ∧ j < i
        · rw [if_pos e2, if_pos (by omega)]
        · rw [if_neg e2, if_neg (by omega)]
    · simp [go_sem]
      exact hset
  · have hki : ¬ (i : Int) < ((w + 2 ^ k : Nat) : Int) := by omega
    obtain rfl : i = w + 2 ^ k := by omega
    have e : bl N g = bl N (frA m w k) := bl_congr (fun j hj => by
      rw [hg j hj]
      unfold frA inb
      by_cases h : w ≤ j ∧ j < w + 2 ^ k
      · rw [if_pos h, decide_eq_true h.1, decide_eq_true h.2]; simp
      · rw [if_neg h]
        by_cases h2 : w ≤ j
        · rw [decide_eq_false (show ¬ j < w + 2 ^ k from fun h3 => h ⟨h2, h3⟩)]; simp
        · rw [decide_eq_false h2]; simp)
    rw [e]
    have htk2 : List.take N ((bl N (frA m w k)).map encDB) = (bl N (frA m w k)).map encDB := List.take_of_length_le (by simp [bl_len])
    repeat' (first
      | (with_reducible first | refine W_seq ?_ | refine W_condT rfl ?_ | refine W_condF rfl ?_ | refine W_tf rfl (fun h => ?_) (fun h => ?_) | refine W_block ?_ | refine endQ_ret ?_ | refine endQ_normal ?_)
      | ((with_reducible first | refine hK _ ?_ | refine hK _ _ ?_); clear hK K)
      | ((first | (with_reducible first | refine ops_cons (fun K hK => ?_) | refine ops_nil ?_ | refine fit_i64 (by omega) ?_ | refine fit_any ?_ | refine rem_nn (by omega) ?_ | refine rem_any ?_) | with_reducible refine callV_snap ?_ | ((with_reducible refine call_go nsizeS nsize_ok ?_); refine ⟨(by first | exact alOk_nil _ | exact alOk_f rfl), _, _, nsize_at _ b1, ?_⟩) | ((with_reducible refine call_go rbuiltS rbuilt_ok ?_); refine ⟨(by first | exact alOk_nil _ | exact alOk_f rfl), _, _, rbuilt_at N (frA m w k) hn, ?_⟩) | (with_reducible first | refine idx_map (by omega) ?_ | refine W_reg lv68BdS ?_ | refine W_skip ?_ | refine W_exit ?_ | refine end_at0 ?_) | (with_reducible refine And.intro (fun h => ?_) (fun h => ?_)) | (with_reducible refine And.intro (by omega) ?_)); (try simp only [go_sem, seval, reduceCtorEq, hki, hsum, htk2, bl_len, lv68BdS, Try.ntmps68, Try.results68, TakeS]))
      | fail)
    refine W_ret (endQ_ret (end_at [2] ?_))
    simp [go_sem, Try.results68, TakeS]
    simpa [flatD, encN] using encNe.flat (bld N (frA m w k))
end Go.Proofs.Ytacfipmigkbncaa
