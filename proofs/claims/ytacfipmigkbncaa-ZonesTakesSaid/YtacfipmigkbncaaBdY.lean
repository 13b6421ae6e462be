/- buddy.New (order.Cut) and buddy.Counts, by the engine. -/
import Derived.Test.YtacfipmigkbncaaBdS
namespace Go.Proofs.Ytacfipmigkbncaa
open Go.RowKit
set_option maxRecDepth 100000
set_option linter.unusedSimpArgs false
set_option linter.unusedVariables false

abbrev lv46BdY : List (Nat × List Nat) := [(0, [0, 2]), (1, [0, 2, 4, 5]), (2, [0, 2, 4, 5, 12]), (3, [2, 3]), (4, [2, 3])]
abbrev lv71BdY : List (Nat × List Nat) := [(0, [0, 1]), (1, [0, 1, 19]), (2, [4, 5]), (3, [0, 1, 6]), (4, [1, 6, 7]), (5, [1, 6, 7, 23]), (6, [1, 6, 7, 8]), (7, [1, 6, 7, 8, 39]), (8, [1, 6, 7, 8]), (9, [1, 6, 7, 8]), (10, [1, 6, 7]), (11, [4, 5])]
abbrev nszOfS : Spec := { rel := fun args ins res outs => ∃ b : Bl, b.2 ≤ 6 ∧ args = [.agg [iv b.1, iv b.2]] ∧ ins = [] ∧ res = iv ((2 ^ b.2 : Nat) : Int) ∧ outs = [] }
theorem nszOf_at (b : Bl) (h : b.2 ≤ 6) : nszOfS.rel [.agg [iv b.1, iv b.2]] [] (iv ((2 ^ b.2 : Nat) : Int)) [] := ⟨b, h, rfl, rfl, rfl, rfl⟩
theorem nszOf_ok : Ok Try.prog 88 nszOfS := by
  refine fn_ok nszOfS Try.func88 rfl rfl ?_
  rintro args ins res outs ⟨b, h, rfl, rfl, rfl, rfl⟩
  refine ⟨by simp [Try.ntmps88], fun w0 V Bo mu0 => ?_⟩
  have hp := p64 _ h
  have hpw : (2 : Int) ^ b.2 = ((2 ^ b.2 : Nat) : Int) := pow_nat b.2
  repeat' (first
    | (with_reducible first | refine W_seq ?_ | refine endQ_ret ?_ | refine endQ_normal ?_)
    | ((with_reducible first | refine hK _ ?_ | refine hK _ _ ?_); clear hK K)
    | ((first | (with_reducible first | refine ops_cons (fun K hK => ?_) | refine ops_nil ?_ | refine fit_i64 (by omega) ?_ | refine fit_u8 (by omega) ?_ | refine fit_u64 (by omega) ?_ | refine fit_u32 (by omega) ?_ | refine fit_any ?_ | refine sh_in (by simp only [IntKind.bits]; omega) ?_) | (with_reducible first | refine W_reg [(0, [1]), (1, [2])] ?_ | refine W_ret ?_ | refine end_at0 ?_) | (with_reducible refine And.intro (fun h => ?_) (fun h => ?_)) | (with_reducible refine And.intro (by omega) ?_)); (try simp only [go_sem, seval, reduceCtorEq, Int.one_mul, hpw, Try.ntmps88, Try.results88, nszOfS]))
    | fail)

/-- the set of all frames -/
abbrev fl (N : Nat) : Nat → Bool := fun i => decide (i < N)
theorem fit_fl {N a o : Nat} : fitB N (fl N) a o = (decide (a % 2 ^ o = 0) && decide (a + 2 ^ o ≤ N)) := by
  rw [Bool.eq_iff_iff, fitB_iff]
  simp only [fl, decide_eq_true_eq, Bool.and_eq_true]
  constructor
  · rintro ⟨h1, h2, _⟩; exact ⟨h1, h2⟩
  · rintro ⟨h1, h2⟩; exact ⟨h1, h2, fun i _ h => by omega⟩
theorem and_nat (a k : Nat) (h : a ≤ 256) (hk : k ≤ 6) : bits .and .i64 (a : Int) (((2 ^ k : Nat) : Int) - 1) = ((a % 2 ^ k : Nat) : Int) := by
  have := and_low (a : Int) k (by omega) (by omega) hk
  rw [pow_nat] at this
  rw [this]; rfl
def CutS : Spec := { rel := fun args ins res outs => (∃ n : Int, (n < 0 ∨ 256 < n) ∧ args = [iv 0, iv n] ∧ ins = [] ∧ res = .tup [.nil, iv 2] ∧ outs = []) ∨
  ∃ N : Nat, N ≤ 256 ∧ args = [iv 0, iv N] ∧ ins = [] ∧ res = .tup [.row 0 2 0 (bld N (fl N)).length, iv 0] ∧ outs = [.rows 87 2 ((bld N (fl N)).map encN)] }
abbrev CutNS : Spec := CutS
theorem CutN_at (n : Int) (h : n < 0 ∨ 256 < n) : CutNS.rel [iv 0, iv n] [] (.tup [.nil, iv 2]) [] := .inl ⟨n, h, rfl, rfl, rfl, rfl⟩
theorem Cut_at (N : Nat) (h : N ≤ 256) : CutS.rel [iv 0, iv N] [] (.tup [.row 0 2 0 (bld N (fl N)).length, iv 0]) [.rows 87 2 ((bld N (fl N)).map encN)] := .inr ⟨N, h, rfl, rfl, rfl, rfl⟩
set_option maxHeartbeats 4000000 in
theorem Cut_ok : Ok Try.prog 71 CutS := by
  refine fn_ok CutS Try.func71 rfl rfl ?_
  rintro args ins res outs (⟨n, hn, rfl, rfl, rfl, rfl⟩ | ⟨N, hN, rfl, rfl, rfl, rfl⟩)
  all_goals refine ⟨by simp [Try.ntmps71], fun w0 V Bo mu0 => ?_⟩
  · by_cases h1 : n < 0
    · skip
      repeat' (first
        | (with_reducible first | refine W_seq ?_ | refine W_condT rfl ?_ | refine W_condF rfl ?_ | refine W_tf rfl (fun h => ?_) (fun h => ?_) | refine W_block ?_ | refine endQ_ret ?_ | refine endQ_normal ?_)
        | ((with_reducible first | refine hK _ ?_ | refine hK _ _ ?_); clear hK K)
        | ((first | (with_reducible first | refine ops_cons (fun K hK => ?_) | refine ops_nil ?_ | refine fit_i64 (by omega) ?_ | refine fit_any ?_) | with_reducible refine callV_snap ?_ | (with_reducible first | refine slice_old ?_ | refine app_grow ?_ | refine W_reg lv71BdY ?_ | refine W_skip ?_ | refine W_exit ?_ | refine W_ret ?_ | refine end_at0 ?_) | (with_reducible refine And.intro (fun h => ?_) (fun h => ?_)) | (with_reducible refine And.intro (by omega) ?_)); (try simp only [go_sem, seval, reduceCtorEq, h1, lv71BdY, Try.ntmps71, Try.results71, CutS]))
        | fail)
    · have h2 : 256 < n := by omega
      repeat' (first
        | (with_reducible first | refine W_seq ?_ | refine W_condT rfl ?_ | refine W_condF rfl ?_ | refine W_tf rfl (fun h => ?_) (fun h => ?_) | refine W_block ?_ | refine endQ_ret ?_ | refine endQ_normal ?_)
        | ((with_reducible first | refine hK _ ?_ | refine hK _ _ ?_); clear hK K)
        | ((first | (with_reducible first | refine ops_cons (fun K hK => ?_) | refine ops_nil ?_ | refine fit_i64 (by omega) ?_ | refine fit_any ?_) | with_reducible refine callV_snap ?_ | (with_reducible first | refine slice_old ?_ | refine app_grow ?_ | refine W_reg lv71BdY ?_ | refine W_skip ?_ | refine W_exit ?_ | refine W_ret ?_ | refine end_at0 ?_) | (with_reducible refine And.intro (fun h => ?_) (fun h => ?_)) | (with_reducible refine And.intro (by omega) ?_)); (try simp only [go_sem, seval, reduceCtorEq, h1, h2, lv71BdY, Try.ntmps71, Try.results71, CutS]))
        | fail)
  have d2 : ¬ (N : Int) < 0 := by omega
  have d3 : ¬ 256 < (N : Int) := by omega
  repeat' (first
    | (with_reducible first | refine W_seq ?_ | refine W_condT rfl ?_ | refine W_condF rfl ?_ | refine W_tf rfl (fun h => ?_) (fun h => ?_) | refine W_block ?_ | refine endQ_ret ?_ | refine endQ_normal ?_)
    | ((with_reducible first | refine hK _ ?_ | refine hK _ _ ?_); clear hK K)
    | ((first | (with_reducible first | refine ops_cons (fun K hK => ?_) | refine ops_nil ?_ | refine fit_i64 (by omega) ?_ | refine fit_any ?_) | with_reducible refine callV_snap ?_ | (with_reducible first | refine slice_old ?_ | refine app_grow ?_ | refine W_reg lv71BdY ?_ | refine W_skip ?_ | refine W_exit ?_ | refine W_ret ?_ | refine end_at0 ?_) | (with_reducible refine And.intro (fun h => ?_) (fun h => ?_)) | (with_reducible refine And.intro (by omega) ?_)); (try simp only [go_sem, seval, reduceCtorEq, d2, d3, lv71BdY, Try.ntmps71, Try.results71, CutS]))
    | fail)
  refine W_adopt 6 87 2 (by decide) (by simp [go_sem]) ?_
  refine W_loop (fun x : Nat × List Bl => ⟨[(1, iv N), (6, .row 0 2 0 x.2.length), (7, iv x.1)], [some (.rows 87 2 (x.2.map encN))]⟩) (fun x => x.1 ≤ N ∧ x.2 ++ bldA N (fl N) x.1 = bld N (fl N) ∧ x.2.length ≤ x.1) (fun x => N - x.1) (0, []) ⟨Nat.zero_le _, rfl, Nat.zero_le _⟩ [0] ?_ ?_
  · simp [go_sem]
  rintro ⟨a, acc⟩ ⟨ha, hgo, hlen⟩
  dsimp only at ha hgo hlen
  by_cases hlt : a < N
  · have hki : (a : Int) < N := by omega
    have hfa : fl N a = true := by simp [fl, hlt]
    rw [bldA_yes hlt hfa] at hgo
    obtain ⟨f1, f2, f3⟩ := fitB_iff.1 (bst_fit (fit0 hlt hfa) 7)
    have h66 := bst_lt (N := N) (f := fl N) (a := a) 6
    have hc6 : ((6 : Nat) : Int) = 6 := rfl
    repeat' (first
      | (with_reducible first | refine W_seq ?_ | refine W_condT rfl ?_ | refine W_condF rfl ?_ | refine W_tf rfl (fun h => ?_) (fun h => ?_) | refine W_block ?_ | refine endQ_ret ?_ | refine endQ_normal ?_)
      | ((with_reducible first | refine hK _ ?_ | refine hK _ _ ?_); clear hK K)
      | ((first | (with_reducible first | refine ops_cons (fun K hK => ?_) | refine ops_nil ?_ | refine fit_i64 (by omega) ?_ | refine fit_any ?_) | with_reducible refine callV_snap ?_ | (with_reducible first | refine slice_old ?_ | refine app_grow ?_ | refine W_reg lv71BdY ?_ | refine W_skip ?_ | refine W_exit ?_ | refine W_ret ?_ | refine end_at0 ?_) | (with_reducible refine And.intro (fun h => ?_) (fun h => ?_)) | (with_reducible refine And.intro (by omega) ?_)); (try simp only [go_sem, seval, reduceCtorEq, hki, lv71BdY, Try.ntmps71, Try.results71, CutS]))
      | fail)
    refine W_loop (fun k : Nat => ⟨[(1, iv N), (6, .row 0 2 0 acc.length), (7, iv a), (8, .ptr 1 0)], [some (.rows 87 2 (acc.map encN)), some (.box 87 [iv a, iv k])]⟩) (fun k => k ≤ 6 ∧ bst N (fl N) a 7 = bst N (fl N) a (k + 1)) (fun k => k) 6 ⟨Nat.le_refl _, rfl⟩ [0, 1] ?_ ?_
    · simp [go_sem]
    rintro k ⟨hk, hkd⟩
    have hp := p64 k hk
    have hb := and_nat a k (by omega) hk
    have hfit := fit_fl (N := N) (a := a) (o := k)
    have hbs : bst N (fl N) a (k + 1) = if fitB N (fl N) a k = true then k else bst N (fl N) a k := rfl
    by_cases o1 : a % 2 ^ k = 0
    · have z0 : ((a % 2 ^ k : Nat) : Int) = 0 := by omega
      by_cases o2 : a + 2 ^ k ≤ N
      · have z1 : ¬ (N : Int) - (a : Int) < ((2 ^ k : Nat) : Int) := by omega
        have hk' : bst N (fl N) a 7 = k := by rw [hkd, hbs, hfit, decide_eq_true o1, decide_eq_true o2]; rfl
        have hadd : (a : Int) + ((2 ^ k : Nat) : Int) = ((a + 2 ^ k : Nat) : Int) := by omega
        rw [hk'] at hgo
        repeat' (first
          | (with_reducible first | refine W_seq ?_ | refine W_condT rfl ?_ | refine W_condF rfl ?_ | refine W_tf rfl (fun h => ?_) (fun h => ?_) | refine W_block ?_ | refine endQ_ret ?_ | refine endQ_normal ?_)
          | ((with_reducible first | refine hK _ ?_ | refine hK _ _ ?_); clear hK K)
          | ((with_reducible refine And.intro (encNe.rows _) ?_))
          | ((first | (with_reducible first | refine ops_cons (fun K hK => ?_) | refine ops_nil ?_ | refine fit_i64 (by omega) ?_ | refine fit_any ?_) | with_reducible refine callV_snap ?_ | ((with_reducible refine call_go nszOfS nszOf_ok ?_); refine ⟨(by first | exact alOk_nil _ | exact alOk_f rfl), _, _, nszOf_at (a, k) hk, ?_⟩) | (with_reducible first | refine slice_old ?_ | refine app_grow ?_ | refine W_reg lv71BdY ?_ | refine W_skip ?_ | refine W_exit ?_ | refine W_ret ?_ | refine end_at0 ?_) | (with_reducible refine And.intro (fun h => ?_) (fun h => ?_)) | (with_reducible refine And.intro (by omega) ?_)); (try simp only [go_sem, seval, reduceCtorEq, hb, z0, z1, hadd, lv71BdY, Try.ntmps71, Try.results71, CutS]))
          | fail)
        refine ⟨(a + 2 ^ k, acc ++ [(a, k)]), [3], ⟨o2, by simpa using hgo, by simp; omega⟩, by dsimp only; omega, ?_⟩
        simp [go_sem, encN]
      · have z1 : (N : Int) - (a : Int) < ((2 ^ k : Nat) : Int) := by omega
        have hk0 : 0 < k := by
          rcases Nat.eq_zero_or_pos k with h | h
          · subst h; simp at o2; omega
          · exact h
        have hk' : bst N (fl N) a 7 = bst N (fl N) a (k - 1 + 1) := by
          rw [hkd, hbs, hfit, decide_eq_false o2]
          simp
          congr 1; omega
        have e : ((k - 1 : Nat) : Int) = (k : Int) - 1 := by omega
        repeat' (first
          | (with_reducible first | refine W_seq ?_ | refine W_condT rfl ?_ | refine W_condF rfl ?_ | refine W_tf rfl (fun h => ?_) (fun h => ?_) | refine W_block ?_ | refine endQ_ret ?_ | refine endQ_normal ?_)
          | ((with_reducible first | refine hK _ ?_ | refine hK _ _ ?_); clear hK K)
          | ((first | (with_reducible first | refine ops_cons (fun K hK => ?_) | refine ops_nil ?_ | refine fit_i64 (by omega) ?_ | refine fit_any ?_) | with_reducible refine callV_snap ?_ | ((with_reducible refine call_go nszOfS nszOf_ok ?_); refine ⟨(by first | exact alOk_nil _ | exact alOk_f rfl), _, _, nszOf_at (a, k) hk, ?_⟩) | (with_reducible first | refine slice_old ?_ | refine app_grow ?_ | refine W_reg lv71BdY ?_ | refine W_skip ?_ | refine W_exit ?_ | refine W_ret ?_ | refine end_at0 ?_) | (with_reducible refine And.intro (fun h => ?_) (fun h => ?_)) | (with_reducible refine And.intro (by omega) ?_)); (try simp only [go_sem, seval, reduceCtorEq, hb, z0, z1, lv71BdY, Try.ntmps71, Try.results71, CutS]))
          | fail)
        refine ⟨k - 1, [0, 1], ⟨by omega, hk'⟩, by omega, ?_⟩
        simp [go_sem, e]
    · have z0 : ¬ ((a % 2 ^ k : Nat) : Int) = 0 := by omega
      have hk0 : 0 < k := by
        rcases Nat.eq_zero_or_pos k with h | h
        · subst h; simp [Nat.mod_one] at o1
        · exact h
      have hk' : bst N (fl N) a 7 = bst N (fl N) a (k - 1 + 1) := by
        rw [hkd, hbs, hfit, decide_eq_false o1]
        simp
        congr 1; omega
      have e : ((k - 1 : Nat) : Int) = (k : Int) - 1 := by omega
      repeat' (first
        | (with_reducible first | refine W_seq ?_ | refine W_condT rfl ?_ | refine W_condF rfl ?_ | refine W_tf rfl (fun h => ?_) (fun h => ?_) | refine W_block ?_ | refine endQ_ret ?_ | refine endQ_normal ?_)
        | ((with_reducible first | refine hK _ ?_ | refine hK _ _ ?_); clear hK K)
        | ((first | (with_reducible first | refine ops_cons (fun K hK => ?_) | refine ops_nil ?_ | refine fit_i64 (by omega) ?_ | refine fit_any ?_) | with_reducible refine callV_snap ?_ | ((with_reducible refine call_go nszOfS nszOf_ok ?_); refine ⟨(by first | exact alOk_nil _ | exact alOk_f rfl), _, _, nszOf_at (a, k) hk, ?_⟩) | (with_reducible first | refine slice_old ?_ | refine app_grow ?_ | refine W_reg lv71BdY ?_ | refine W_skip ?_ | refine W_exit ?_ | refine W_ret ?_ | refine end_at0 ?_) | (with_reducible refine And.intro (fun h => ?_) (fun h => ?_)) | (with_reducible refine And.intro (by omega) ?_)); (try simp only [go_sem, seval, reduceCtorEq, hb, z0, lv71BdY, Try.ntmps71, Try.results71, CutS]))
        | fail)
      refine ⟨k - 1, [0, 1], ⟨by omega, hk'⟩, by omega, ?_⟩
      simp [go_sem, e]
  · have hki : ¬ (a : Int) < N := by omega
    rw [bldA_end (by omega), List.append_nil] at hgo
    rw [← hgo]
    have hfl := encNe.flat acc
    repeat' (first
      | (with_reducible first | refine W_seq ?_ | refine W_condT rfl ?_ | refine W_condF rfl ?_ | refine W_tf rfl (fun h => ?_) (fun h => ?_) | refine W_block ?_ | refine endQ_ret ?_ | refine endQ_normal ?_)
      | ((with_reducible first | refine hK _ ?_ | refine hK _ _ ?_); clear hK K)
      | ((first | (with_reducible first | refine ops_cons (fun K hK => ?_) | refine ops_nil ?_ | refine fit_i64 (by omega) ?_ | refine fit_any ?_) | with_reducible refine callV_snap ?_ | (with_reducible first | refine slice_old ?_ | refine app_grow ?_ | refine W_reg lv71BdY ?_ | refine W_skip ?_ | refine W_exit ?_ | refine end_at0 ?_) | (with_reducible refine And.intro (fun h => ?_) (fun h => ?_)) | (with_reducible refine And.intro (by omega) ?_)); (try simp only [go_sem, seval, reduceCtorEq, hki, lv71BdY, Try.ntmps71, Try.results71, CutS]))
      | fail)
    refine W_ret (endQ_ret (end_at [0] ?_))
    simp [go_sem, Try.results71, CutS]
    simpa [flatD, encN] using hfl
theorem CutN_ok : Ok Try.prog 71 CutNS := Cut_ok
set_option maxHeartbeats 2000000 in
theorem New_ok : Ok Try.prog 46 NewS := by
  refine fn_ok NewS Try.func46 rfl rfl ?_
  rintro args ins res outs (⟨n, hn, rfl, rfl, rfl, rfl⟩ | ⟨N, hN, rfl, rfl, rfl, rfl⟩)
  all_goals refine ⟨by simp [Try.ntmps46], fun w0 V Bo mu0 => ?_⟩
  · skip
    repeat' (first
      | (with_reducible first | refine W_seq ?_ | refine W_condT rfl ?_ | refine W_condF rfl ?_ | refine W_tf rfl (fun h => ?_) (fun h => ?_) | refine endQ_ret ?_ | refine endQ_normal ?_)
      | ((with_reducible first | refine hK _ ?_ | refine hK _ _ ?_); clear hK K)
      | ((first | (with_reducible first | refine ops_cons (fun K hK => ?_) | refine ops_nil ?_) | with_reducible refine callV_snap ?_ | ((with_reducible refine call_go CutNS CutN_ok ?_); refine ⟨(by first | exact alOk_nil _ | exact alOk_f rfl), _, _, CutN_at n hn, ?_⟩) | (with_reducible first | refine W_reg lv46BdY ?_ | refine W_skip ?_ | refine W_ret ?_ | refine end_at0 ?_) | (with_reducible refine And.intro (fun h => ?_) (fun h => ?_)) | (with_reducible refine And.intro (by omega) ?_)); (try simp only [go_sem, seval, reduceCtorEq, lv46BdY, Try.ntmps46, Try.results46, NewS]))
      | fail)
  · skip
    repeat' (first
      | (with_reducible first | refine W_seq ?_ | refine W_condT rfl ?_ | refine W_condF rfl ?_ | refine W_tf rfl (fun h => ?_) (fun h => ?_) | refine endQ_ret ?_ | refine endQ_normal ?_)
      | ((with_reducible first | refine hK _ ?_ | refine hK _ _ ?_); clear hK K)
      | ((first | (with_reducible first | refine ops_cons (fun K hK => ?_) | refine ops_nil ?_) | with_reducible refine callV_snap ?_ | ((with_reducible refine call_go CutS Cut_ok ?_); refine ⟨(by first | exact alOk_nil _ | exact alOk_f rfl), _, _, Cut_at N hN, ?_⟩) | (with_reducible first | refine W_reg lv46BdY ?_ | refine W_skip ?_ | refine end_at0 ?_) | (with_reducible refine And.intro (fun h => ?_) (fun h => ?_)) | (with_reducible refine And.intro (by omega) ?_)); (try simp only [go_sem, seval, reduceCtorEq, lv46BdY, Try.ntmps46, Try.results46, NewS]))
      | fail)
    refine W_ret (endQ_ret (end_at [1] ?_))
    simp [go_sem, Try.results46, NewS]
    simpa [flatD, encN] using encNe.flat (bld N (fl N))
end Go.Proofs.Ytacfipmigkbncaa
