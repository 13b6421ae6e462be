/- The shelf by the engine: shelve. -/
import Derived.Test.YtacfipmigkbncaaBdC
namespace Go.Proofs.Ytacfipmigkbncaa
open Go.RowKit
set_option maxRecDepth 100000
set_option linter.unusedSimpArgs false
set_option linter.unusedVariables false

abbrev lv81BdD : List (Nat × List Nat) := [(0, [0]), (1, [0, 3]), (2, [3, 8, 9, 10]), (3, [3, 8, 9, 10, 11]), (4, [3, 5, 8, 9, 10]), (5, [3, 8, 9, 10]), (6, [3, 8, 9, 10]), (7, [2])]
def put (L : Shf) (b : Bl) : Shf := upd L b.2 (insS b.1 (L b.2))
def shv (l : List Bl) : Shf := l.foldl put (fun _ => [])
theorem shv_take (l : List Bl) (i : Nat) (h : i < l.length) : shv (l.take (i + 1)) = put (shv (l.take i)) l[i] := by
  unfold shv; rw [take_get l i h, List.foldl_append]; rfl
/-- blocks that a shelf takes: distinct, in range -/
structure Bls (l : List Bl) : Prop where
  nd : l.Nodup
  rng : ∀ b ∈ l, b.1 < 256 ∧ b.2 ≤ 6
theorem put_mem (L : Shf) (b : Bl) (x k : Nat) : x ∈ put L b k ↔ (x, k) = b ∨ x ∈ L k := by
  unfold put upd
  obtain ⟨a, o⟩ := b
  dsimp only
  by_cases h : k = o
  · subst h; rw [if_pos rfl, insS_mem]; simp
  · rw [if_neg h]; simp [h]
theorem foldl_mem : ∀ (l : List Bl) (L : Shf) (x k : Nat), x ∈ l.foldl put L k ↔ (x, k) ∈ l ∨ x ∈ L k
  | [], L, x, k => by simp
  | b :: l, L, x, k => by
    rw [List.foldl_cons, foldl_mem l (put L b) x k, put_mem, List.mem_cons]
    constructor
    · rintro (h | h | h) <;> simp [h]
    · rintro ((h | h) | h) <;> simp [h]
theorem shv_mem (l : List Bl) (x k : Nat) : x ∈ shv l k ↔ (x, k) ∈ l := by unfold shv; rw [foldl_mem]; simp
theorem shv_ok : ∀ (l : List Bl), Bls l → ∀ i, i ≤ l.length → Sh (shv (l.take i))
  | l, h, 0, _ => ⟨fun k => by simp [shv], fun k x hx => by simp [shv] at hx⟩
  | l, h, i + 1, hi => by
    rw [shv_take l i (by omega)]
    refine Sh.add (shv_ok l h i (by omega)) (h.rng _ (List.getElem_mem (by omega))).1 (fun hm => ?_)
    rw [shv_mem] at hm
    obtain ⟨j, hj, he⟩ := List.getElem_of_mem hm
    simp only [List.length_take] at hj
    rw [List.getElem_take] at he
    have := (List.pairwise_iff_getElem.1 h.nd) j i (by omega) (by omega) (by omega)
    exact this he

def shelveS : Spec := { rel := fun args ins res outs => ∃ l : List Bl, l.length ≤ 1000000 ∧ Bls l ∧ args = [dN l] ∧ ins = [] ∧ res = .ptr 0 0 ∧ outs = shI (shv l) }
theorem shelve_at (l : List Bl) (h : l.length ≤ 1000000) (hb : Bls l) : shelveS.rel [dN l] [] (.ptr 0 0) (shI (shv l)) := ⟨l, h, hb, rfl, rfl, rfl, rfl⟩
set_option maxHeartbeats 8000000 in
theorem shelve_ok : Ok Try.prog 81 shelveS := by
  refine fn_ok shelveS Try.func81 rfl rfl ?_
  rintro args ins res outs ⟨l, hl, hb, rfl, rfl, rfl, rfl⟩
  refine ⟨by simp [Try.ntmps81], fun w0 V Bo mu0 => ?_⟩
  repeat' (first
    | (with_reducible first | refine W_seq ?_ | refine W_condT rfl ?_ | refine W_condF rfl ?_ | refine W_tf rfl (fun h => ?_) (fun h => ?_) | refine W_block ?_ | refine endQ_ret ?_ | refine endQ_normal ?_)
    | ((with_reducible first | refine hK _ ?_ | refine hK _ _ ?_); clear hK K)
    | ((first | (with_reducible first | refine ops_cons (fun K hK => ?_) | refine ops_nil ?_ | refine fit_i64 (by omega) ?_ | refine fit_any ?_) | with_reducible refine callV_snap ?_ | (with_reducible first | refine idx_map (by omega) ?_ | refine W_reg lv81BdD ?_ | refine W_skip ?_ | refine W_exit ?_ | refine W_ret ?_ | refine end_at0 ?_) | (with_reducible refine And.intro (fun h => ?_) (fun h => ?_)) | (with_reducible refine And.intro (by omega) ?_)); (try simp only [go_sem, seval, reduceCtorEq, lv81BdD, Try.ntmps81, Try.results81, shelveS]))
    | fail)
  refine W_adoptC (t := 5) (sz := 1) 0 0 (by decide) (by simp only [go_sem, seval, reduceCtorEq]; rfl) rfl ?_
  simp only [go_sem, seval, reduceCtorEq]
  refine W_adoptC (t := 5) (sz := 1) 0 1 (by decide) (by simp only [go_sem, seval, reduceCtorEq]; rfl) rfl ?_
  simp only [go_sem, seval, reduceCtorEq]
  refine W_adoptC (t := 5) (sz := 1) 0 2 (by decide) (by simp only [go_sem, seval, reduceCtorEq]; rfl) rfl ?_
  simp only [go_sem, seval, reduceCtorEq]
  refine W_adoptC (t := 5) (sz := 1) 0 3 (by decide) (by simp only [go_sem, seval, reduceCtorEq]; rfl) rfl ?_
  simp only [go_sem, seval, reduceCtorEq]
  refine W_adoptC (t := 5) (sz := 1) 0 4 (by decide) (by simp only [go_sem, seval, reduceCtorEq]; rfl) rfl ?_
  simp only [go_sem, seval, reduceCtorEq]
  refine W_adoptC (t := 5) (sz := 1) 0 5 (by decide) (by simp only [go_sem, seval, reduceCtorEq]; rfl) rfl ?_
  simp only [go_sem, seval, reduceCtorEq]
  refine W_adoptC (t := 5) (sz := 1) 0 6 (by decide) (by simp only [go_sem, seval, reduceCtorEq]; rfl) rfl ?_
  simp only [go_sem, seval, reduceCtorEq]
  refine W_loop (fun i : Nat => ⟨[(3, .ptr 0 0), (8, dN l), (9, iv l.length), (10, iv i)], (shI (shv (l.take i))).map some⟩) (fun i => i ≤ l.length) (fun i => l.length - i) 0 (Nat.zero_le _) [0, 1, 2, 3, 4, 5, 6, 7] ?_ ?_
  · simp [go_sem, shv]
  intro i hi
  simp only [List.map_cons, List.map_nil]
  by_cases hlt : i < l.length
  · have hki : (i : Int) < l.length := by omega
    obtain ⟨r1, r2⟩ := hb.rng _ (List.getElem_mem hlt)
    have hS := shv_ok l hb i hi
    have hstep := shv_take l i hlt
    unfold put at hstep
    repeat' (first
      | (with_reducible first | refine W_seq ?_ | refine W_condT rfl ?_ | refine W_condF rfl ?_ | refine W_tf rfl (fun h => ?_) (fun h => ?_) | refine W_block ?_ | refine endQ_ret ?_ | refine endQ_normal ?_)
      | ((with_reducible first | refine hK _ ?_ | refine hK _ _ ?_); clear hK K)
      | ((first | (with_reducible first | refine ops_cons (fun K hK => ?_) | refine ops_nil ?_ | refine fit_i64 (by omega) ?_ | refine fit_any ?_) | ((with_reducible refine callV_lend addS [0,1,2,3,4,5,6,7] add_ok rfl ?_); simp only [go_sem, seval, reduceCtorEq, encN, hki, addS, decide_true, Bool.and_self, lv81BdD]; refine ⟨(by first | exact alOk_nil _ | exact alOk_f rfl), rfl, _, _, add_at (shv (l.take i)) (l[i]).2 (l[i]).1 r2 r1 hS, ?_⟩) | with_reducible refine callV_snap ?_ | (with_reducible first | refine idx_map (by omega) ?_ | refine W_reg lv81BdD ?_ | refine W_skip ?_ | refine W_exit ?_ | refine W_ret ?_ | refine end_at0 ?_) | (with_reducible refine And.intro (fun h => ?_) (fun h => ?_)) | (with_reducible refine And.intro (by omega) ?_)); (try simp only [go_sem, seval, reduceCtorEq, encN, hki, addS, decide_true, Bool.and_self, lv81BdD, addS, Try.ntmps81, Try.results81, shelveS]))
      | fail)
    refine ⟨i + 1, [0, 9, 10, 11, 12, 13, 14, 15], by omega, by omega, ?_⟩
    rw [← hstep]
    simp [go_sem]
  · have hki : ¬ (i : Int) < l.length := by omega
    obtain rfl : i = l.length := by omega
    rw [List.take_length]
    repeat' (first
      | (with_reducible first | refine W_seq ?_ | refine W_condT rfl ?_ | refine W_condF rfl ?_ | refine W_tf rfl (fun h => ?_) (fun h => ?_) | refine W_block ?_ | refine endQ_ret ?_ | refine endQ_normal ?_)
      | ((with_reducible first | refine hK _ ?_ | refine hK _ _ ?_); clear hK K)
      | ((first | (with_reducible first | refine ops_cons (fun K hK => ?_) | refine ops_nil ?_ | refine fit_i64 (by omega) ?_ | refine fit_any ?_) | with_reducible refine callV_snap ?_ | (with_reducible first | refine idx_map (by omega) ?_ | refine W_reg lv81BdD ?_ | refine W_skip ?_ | refine W_exit ?_ | refine end_at0 ?_) | (with_reducible refine And.intro (fun h => ?_) (fun h => ?_)) | (with_reducible refine And.intro (by omega) ?_)); (try simp only [go_sem, seval, reduceCtorEq, hki, lv81BdD, Try.ntmps81, Try.results81, shelveS]))
      | fail)
    refine W_ret (endQ_ret (end_at [0, 1, 2, 3, 4, 5, 6, 7] ?_))
    simp [go_sem, Try.results81, shelveS, encU]
end Go.Proofs.Ytacfipmigkbncaa
