/- The shelf by the engine: join and shelve. -/
import Derived.Test.YtacfipmigkbncaaBdB
namespace Go.Proofs.Ytacfipmigkbncaa
open Go.RowKit
set_option maxRecDepth 100000
set_option linter.unusedSimpArgs false
set_option linter.unusedVariables false

abbrev lv82BdC : List (Nat × List Nat) := [(0, [0, 1, 2, 6]), (1, [0, 1, 2, 6, 19]), (2, [0, 1, 2, 6]), (3, [0, 1, 2, 6]), (4, [0, 1, 2, 6]), (5, [])]
/-- a block: place, order -/
abbrev Bl := Nat × Nat
def encN (b : Bl) : List D := [.int .i64 (b.1 : Int), .int .i64 (b.2 : Int)]
theorem encNe : Enc encN 2 := ⟨fun _ => rfl, fun x d hd => by simp only [encN, List.mem_cons, List.not_mem_nil, or_false] at hd; rcases hd with rfl | rfl <;> rfl⟩
abbrev dN (l : List Bl) : AV := .d (.sl (l.map encN))

/-- the buddy, the parent's place -/
def bud (a k : Nat) : Nat := if a % 2 ^ (k + 1) = 0 then a + 2 ^ k else a - 2 ^ k
def par (a k : Nat) : Nat := if a % 2 ^ (k + 1) = 0 then a else a - 2 ^ k
theorem xor_bud : ∀ k : Fin 6, ∀ a : Fin 256, a.1 % 2 ^ k.1 = 0 → bits .xor .i64 (a.1 : Int) (2 ^ k.1) = (bud a.1 k.1 : Int) ∧ bits .andNot .i64 (a.1 : Int) (2 ^ k.1) = (par a.1 k.1 : Int) ∧ bud a.1 k.1 < 256 ∧ par a.1 k.1 % 2 ^ (k.1 + 1) = 0 ∧ par a.1 k.1 < 256 := by decide +kernel
theorem pow_lt : ∀ k : Fin 6, (2 : Int) ^ k.1 < 64 := by decide
theorem pow_le : ∀ k : Fin 7, (1 : Int) ≤ 2 ^ k.1 ∧ (2 : Int) ^ k.1 ≤ 64 ∧ (2 : Int) ^ k.1 = ((2 ^ k.1 : Nat) : Int) := by decide

def joinF : Nat → Shf → Nat → Nat → Shf
  | 0, L, a, k => upd L k (insS a (L k))
  | f + 1, L, a, k => if k < 6 ∧ bud a k ∈ L k then joinF f (upd L k ((L k).erase (bud a k))) (par a k) (k + 1) else upd L k (insS a (L k))
def joinL (L : Shf) (a k : Nat) : Shf := joinF (6 - k) L a k
theorem joinL_go {L : Shf} {a k : Nat} (h : k < 6) (hm : bud a k ∈ L k) : joinL L a k = joinL (upd L k ((L k).erase (bud a k))) (par a k) (k + 1) := by
  unfold joinL
  obtain ⟨f, hf⟩ : ∃ f, 6 - k = f + 1 := ⟨5 - k, by omega⟩
  rw [hf, show 6 - (k + 1) = f by omega]
  simp [joinF, h, hm]
theorem joinL_no {L : Shf} {a k : Nat} (hm : bud a k ∉ L k) : joinL L a k = upd L k (insS a (L k)) := by
  unfold joinL
  cases 6 - k <;> simp [joinF, hm]
theorem joinL_six {L : Shf} {a : Nat} : joinL L a 6 = upd L 6 (insS a (L 6)) := rfl

abbrev removeTS : Spec := removeS
abbrev removeFS : Spec := removeS
theorem removeT_ok : Ok Try.prog 86 removeTS := remove_ok
theorem removeF_ok : Ok Try.prog 86 removeFS := remove_ok
theorem removeT_at (L : Shf) (k x : Nat) (hk : k ≤ 6) (hx : x < 256) (h : Sh L) (hm : x ∈ L k) : removeTS.rel [.ptr 0 0, iv x, iv k] (shI L) (bv true) (shI (upd L k ((L k).erase x))) := by
  have := remove_at L k x hk hx h
  rwa [decide_eq_true hm] at this
theorem upd_self (L : Shf) (k : Nat) : upd L k (L k) = L := by funext j; unfold upd; split <;> simp_all
theorem removeF_at (L : Shf) (k x : Nat) (hk : k ≤ 6) (hx : x < 256) (h : Sh L) (hm : x ∉ L k) : removeFS.rel [.ptr 0 0, iv x, iv k] (shI L) (bv false) (shI L) := by
  have := remove_at L k x hk hx h
  rwa [decide_eq_false hm, List.erase_of_not_mem hm, upd_self] at this

def joinS : Spec := { dead := [1, 2, 3, 4, 5, 6, 7], rel := fun args ins res outs => ∃ (L : Shf) (k x : Nat), k ≤ 6 ∧ x < 256 ∧ x % 2 ^ k = 0 ∧ Sh L ∧ args = [.ptr 0 0, iv x, iv k] ∧ ins = shI L ∧ res = .tup [] ∧ outs = shO (joinL L x k) }
theorem join_at (L : Shf) (k x : Nat) (hk : k ≤ 6) (hx : x < 256) (hm : x % 2 ^ k = 0) (h : Sh L) : joinS.rel [.ptr 0 0, iv x, iv k] (shI L) (.tup []) (shO (joinL L x k)) := ⟨L, k, x, hk, hx, hm, h, rfl, rfl, rfl, rfl⟩
set_option maxHeartbeats 8000000 in
theorem join_ok : Ok Try.prog 82 joinS := by
  refine fn_ok joinS Try.func82 rfl rfl ?_
  rintro args ins res outs ⟨L, k, x, hk, hx, hm, hL, rfl, rfl, rfl, rfl⟩
  refine ⟨by simp [Try.ntmps82], fun w0 V Bo mu0 => ?_⟩
  have hb := pow_le ⟨k, by omega⟩
  dsimp only at hb
  repeat' (first
    | (with_reducible first | refine W_seq ?_ | refine W_condT rfl ?_ | refine W_condF rfl ?_ | refine W_tf rfl (fun h => ?_) (fun h => ?_) | refine W_block ?_ | refine endQ_ret ?_ | refine endQ_normal ?_)
    | ((with_reducible first | refine hK _ ?_ | refine hK _ _ ?_); clear hK K)
    | ((first | (with_reducible first | refine ops_cons (fun K hK => ?_) | refine ops_nil ?_ | refine fit_i64 (by omega) ?_ | refine fit_u8 (by omega) ?_ | refine fit_u64 (by omega) ?_ | refine fit_u32 (by omega) ?_ | refine fit_any ?_ | refine sh_in (by simp only [IntKind.bits]; omega) ?_) | with_reducible refine callV_snap ?_ | (with_reducible first | refine W_reg lv82BdC ?_ | refine W_skip ?_ | refine W_exit ?_ | refine W_ret ?_ | refine end_at0 ?_) | (with_reducible refine And.intro (fun h => ?_) (fun h => ?_)) | (with_reducible refine And.intro (by omega) ?_)); (try simp only [go_sem, seval, reduceCtorEq, lv82BdC, Try.ntmps82, Try.results82, joinS]))
    | fail)
  refine W_loop (fun q : Shf × Nat × Nat => ⟨[(0, .ptr 0 0), (1, iv q.2.1), (2, iv q.2.2), (6, iv (2 ^ q.2.2))], (shI q.1).map some⟩)
    (fun q => q.2.2 ≤ 6 ∧ q.2.1 < 256 ∧ q.2.1 % 2 ^ q.2.2 = 0 ∧ Sh q.1 ∧ joinL q.1 q.2.1 q.2.2 = joinL L x k) (fun q => 6 - q.2.2) (L, x, k) ⟨hk, hx, hm, hL, rfl⟩ [0, 1, 2, 3, 4, 5, 6, 7] ?_ ?_
  · simp [go_sem]
  rintro ⟨M, a, j⟩ ⟨hj, ha, ham, hM, hgo⟩
  dsimp only at hj ha ham hM hgo
  simp only [List.map_cons, List.map_nil]
  by_cases h6 : j < 6
  · obtain ⟨x1, x2, x3, x4, x5⟩ := xor_bud ⟨j, h6⟩ ⟨a, ha⟩ ham
    have p1 := pow_lt ⟨j, h6⟩
    have p2 := pow_le ⟨j, by omega⟩
    dsimp only at x1 x2 x3 x4 x5 p1 p2
    by_cases hin : bud a j ∈ M j
    · rw [joinL_go h6 hin] at hgo
      repeat' (first
        | (with_reducible first | refine W_seq ?_ | refine W_condT rfl ?_ | refine W_condF rfl ?_ | refine W_tf rfl (fun h => ?_) (fun h => ?_) | refine W_block ?_ | refine endQ_ret ?_ | refine endQ_normal ?_)
        | ((with_reducible first | refine hK _ ?_ | refine hK _ _ ?_); clear hK K)
        | ((first | (with_reducible first | refine ops_cons (fun K hK => ?_) | refine ops_nil ?_ | refine fit_i64 (by omega) ?_ | refine fit_u8 (by omega) ?_ | refine fit_u64 (by omega) ?_ | refine fit_u32 (by omega) ?_ | refine fit_any ?_ | refine sh_in (by simp only [IntKind.bits]; omega) ?_) | ((with_reducible refine callV_lend removeTS [0,1,2,3,4,5,6,7] removeT_ok rfl ?_); simp only [go_sem, seval, reduceCtorEq, p1, x1, x2, removeS, decide_true, Bool.and_self, lv82BdC]; refine ⟨(by first | exact alOk_nil _ | exact alOk_f rfl), rfl, _, _, removeT_at M j (bud a j) (by omega) x3 hM hin, ?_⟩) | with_reducible refine callV_snap ?_ | (with_reducible first | refine W_reg lv82BdC ?_ | refine W_skip ?_ | refine W_exit ?_ | refine W_ret ?_ | refine end_at0 ?_) | (with_reducible refine And.intro (fun h => ?_) (fun h => ?_)) | (with_reducible refine And.intro (by omega) ?_)); (try simp only [go_sem, seval, reduceCtorEq, p1, x1, x2, removeS, decide_true, Bool.and_self, lv82BdC, removeTS, Try.ntmps82, Try.results82, joinS]))
        | fail)
      refine ⟨(upd M j ((M j).erase (bud a j)), par a j, j + 1), [0, 1, 2, 3, 4, 5, 6, 7], ⟨by dsimp only; omega, x5, x4, hM.del j _, hgo⟩, by dsimp only; omega, ?_⟩
      simp [go_sem, Int.pow_succ]
    · rw [joinL_no hin] at hgo
      repeat' (first
        | (with_reducible first | refine W_seq ?_ | refine W_condT rfl ?_ | refine W_condF rfl ?_ | refine W_tf rfl (fun h => ?_) (fun h => ?_) | refine W_block ?_ | refine endQ_ret ?_ | refine endQ_normal ?_)
        | ((with_reducible first | refine hK _ ?_ | refine hK _ _ ?_); clear hK K)
        | ((first | (with_reducible first | refine ops_cons (fun K hK => ?_) | refine ops_nil ?_ | refine fit_i64 (by omega) ?_ | refine fit_u8 (by omega) ?_ | refine fit_u64 (by omega) ?_ | refine fit_u32 (by omega) ?_ | refine fit_any ?_ | refine sh_in (by simp only [IntKind.bits]; omega) ?_) | ((with_reducible refine callV_lend removeFS [0,1,2,3,4,5,6,7] removeF_ok rfl ?_); simp only [go_sem, seval, reduceCtorEq, p1, x1, x2, removeS, addS, decide_true, Bool.and_self, lv82BdC]; refine ⟨(by first | exact alOk_nil _ | exact alOk_f rfl), rfl, _, _, removeF_at M j (bud a j) (by omega) x3 hM hin, ?_⟩) | ((with_reducible refine callV_lend addS [0,1,2,3,4,5,6,7] add_ok rfl ?_); simp only [go_sem, seval, reduceCtorEq, p1, x1, x2, removeS, addS, decide_true, Bool.and_self, lv82BdC]; refine ⟨(by first | exact alOk_nil _ | exact alOk_f rfl), rfl, _, _, add_at M j a (by omega) ha hM, ?_⟩) | with_reducible refine callV_snap ?_ | (with_reducible first | refine W_reg lv82BdC ?_ | refine W_skip ?_ | refine W_exit ?_ | refine end_at0 ?_) | (with_reducible refine And.intro (fun h => ?_) (fun h => ?_)) | (with_reducible refine And.intro (by omega) ?_)); (try simp only [go_sem, seval, reduceCtorEq, p1, x1, x2, removeS, addS, decide_true, Bool.and_self, lv82BdC, removeFS, addS, Try.ntmps82, Try.results82, joinS]))
        | fail)
      rw [hgo]
      refine end_at [0, 1, 2, 3, 4, 5, 6, 7, 8, 9, 10, 11, 12, 13, 14] ?_
      simp [go_sem, Try.results82, joinS, encU]
  · obtain rfl : j = 6 := by omega
    rw [joinL_six] at hgo
    have p1 : ¬ (2 : Int) ^ 6 < 64 := by decide
    have hk' : ((6 : Nat) : Int) = 6 := rfl
    repeat' (first
      | (with_reducible first | refine W_seq ?_ | refine W_condT rfl ?_ | refine W_condF rfl ?_ | refine W_tf rfl (fun h => ?_) (fun h => ?_) | refine W_block ?_ | refine endQ_ret ?_ | refine endQ_normal ?_)
      | ((with_reducible first | refine hK _ ?_ | refine hK _ _ ?_); clear hK K)
      | ((first | (with_reducible first | refine ops_cons (fun K hK => ?_) | refine ops_nil ?_ | refine fit_i64 (by omega) ?_ | refine fit_u8 (by omega) ?_ | refine fit_u64 (by omega) ?_ | refine fit_u32 (by omega) ?_ | refine fit_any ?_ | refine sh_in (by simp only [IntKind.bits]; omega) ?_) | ((with_reducible refine callV_lend addS [0,1,2,3,4,5,6,7] add_ok rfl ?_); simp only [go_sem, seval, reduceCtorEq, p1, hk', removeS, addS, decide_true, Bool.and_self, lv82BdC]; refine ⟨(by first | exact alOk_nil _ | exact alOk_f rfl), rfl, _, _, add_at M 6 a (by omega) ha hM, ?_⟩) | with_reducible refine callV_snap ?_ | (with_reducible first | refine W_reg lv82BdC ?_ | refine W_skip ?_ | refine W_exit ?_ | refine end_at0 ?_) | (with_reducible refine And.intro (fun h => ?_) (fun h => ?_)) | (with_reducible refine And.intro (by omega) ?_)); (try simp only [go_sem, seval, reduceCtorEq, p1, hk', removeS, addS, decide_true, Bool.and_self, lv82BdC, addS, Try.ntmps82, Try.results82, joinS]))
      | fail)
    rw [hgo]
    refine end_at [0, 1, 2, 3, 4, 5, 6, 7, 8, 9, 10, 11, 12, 13, 14] ?_
    simp [go_sem, Try.results82, joinS, encU]
end Go.Proofs.Ytacfipmigkbncaa
