/- The specification's frames, built, New, asked, Take, Free; by the engine. -/
import Derived.Test.YtacfipmigkbncaaBdQ
import Derived.Test.YtacfipmigkbncaaBdO
namespace Go.Proofs.Ytacfipmigkbncaa
open Go.RowKit
set_option maxRecDepth 100000
set_option linter.unusedSimpArgs false
set_option linter.unusedVariables false

abbrev lv72BdR : List (Nat × List Nat) := [(0, [0, 2]), (1, [0, 2, 3]), (2, [0, 2, 3, 4]), (3, [0, 2, 3, 4, 13]), (4, [0, 2, 3, 4, 18]), (5, [0, 2, 3, 4]), (6, [0, 2, 3, 4, 5]), (7, [0, 2, 3, 4, 5, 6]), (8, [0, 2, 3, 4, 5, 6, 22]), (9, [0, 2, 3, 4, 5, 6]), (10, [0, 2, 3, 4, 5, 6, 36]), (11, [0, 2, 3, 4, 5, 6]), (12, [0, 2, 3, 4, 5]), (13, [0, 2, 3, 4]), (14, [2])]
abbrev lv79BdR : List (Nat × List Nat) := [(0, [1]), (1, [1, 3]), (2, [1, 3, 4]), (3, [1, 3, 4, 13]), (4, [1, 3, 4]), (5, [1, 3, 4, 5]), (6, [1, 3, 4, 5, 24]), (7, [1, 3, 4, 5]), (8, [1, 3, 4, 5]), (9, [2])]
theorem idx_map2 {α : Type} {enc : α → List D} {l : List α} {k : Nat} {K : List D → List D → Prop} (h : k < l.length) (hk : ∃ ds, K (enc l[k]) ds) : ∃ r ds, (l.map enc)[k]? = some r ∧ K r ds := by
  obtain ⟨ds, hd⟩ := hk
  exact ⟨_, ds, by rw [List.getElem?_map, List.getElem?_eq_getElem h]; rfl, hd⟩
theorem encDB_len (b : Bool) : (encDB b).length = 1 := rfl
theorem frM_take (m : List Bl) (i j : Nat) (h : i < m.length) : frM (m.take (i + 1)) j = (frM (m.take i) j || inb (m[i]).1 (m[i]).2 j) := by
  unfold frM inb
  rw [take_get m i h, List.any_append]
  simp
def rframesS : Spec := { rel := fun args ins res outs => ∃ (N : Nat) (m : List Bl), Vn N m ∧ args = [.agg [iv N, dN m]] ∧ ins = [] ∧ res = .row 0 1 0 N ∧ outs = [.rows 4 1 ((bl N (frM m)).map encDB)] }
theorem rframes_at (N : Nat) (m : List Bl) (h : Vn N m) : rframesS.rel [.agg [iv N, dN m]] [] (.row 0 1 0 N) [.rows 4 1 ((bl N (frM m)).map encDB)] := ⟨N, m, h, rfl, rfl, rfl, rfl⟩
set_option maxHeartbeats 4000000 in
theorem rframes_ok : Ok Try.prog 79 rframesS := by
  refine fn_ok rframesS Try.func79 rfl rfl ?_
  rintro args ins res outs ⟨N, m, hv, rfl, rfl, rfl, rfl⟩
  refine ⟨by simp [Try.ntmps79], fun w0 V Bo mu0 => ?_⟩
  have hn := hv.n
  have hlen := hv.len
  have hz := bl_zero N
  repeat' (first
    | (with_reducible first | refine W_seq ?_ | refine W_condT rfl ?_ | refine W_condF rfl ?_ | refine W_tf rfl (fun h => ?_) (fun h => ?_) | refine W_block ?_ | refine endQ_ret ?_ | refine endQ_normal ?_)
    | ((with_reducible first | refine hK _ ?_ | refine hK _ _ ?_); clear hK K)
    | ((first | (with_reducible first | refine ops_cons (fun K hK => ?_) | refine ops_nil ?_ | refine fit_i64 (by omega) ?_ | refine fit_any ?_) | with_reducible refine callV_snap ?_ | (with_reducible first | refine slice_old ?_ | refine idx_map (by omega) ?_ | refine W_reg lv79BdR ?_ | refine W_skip ?_ | refine W_exit ?_ | refine W_ret ?_ | refine end_at0 ?_) | (with_reducible refine And.intro (fun h => ?_) (fun h => ?_)) | (with_reducible refine And.intro (by omega) ?_)); (try simp only [go_sem, seval, reduceCtorEq, lv79BdR, Try.ntmps79, Try.results79, rframesS]))
    | fail)
  refine W_loop (fun x : Nat × (Nat → Bool) => ⟨[(1, .ptr 0 0), (3, .row 1 1 0 N), (4, iv x.1)], [some (.box 59 [iv N, dN m]), some (.rows 4 1 ((bl N x.2).map encDB))]⟩) (fun x => x.1 ≤ m.length ∧ ∀ j, j < N → x.2 j = frM (m.take x.1) j) (fun x => m.length - x.1) (0, fun _ => false) ⟨Nat.zero_le _, fun j _ => by simp [frM]⟩ [0, 1] ?_ ?_
  · simp [go_sem]
    exact hz
  rintro ⟨i, f⟩ ⟨hi, hf⟩
  dsimp only at hi hf
  by_cases hlt : i < m.length
  · have hki : (i : Int) < m.length := by omega
    obtain ⟨r1, r2⟩ := hv.bls.rng _ (List.getElem_mem hlt)
    obtain ⟨o1, o2, o3⟩ := hv.ok _ (List.getElem_mem hlt)
    have hp := p64 _ r2
    repeat' (first
      | (with_reducible first | refine W_seq ?_ | refine W_condT rfl ?_ | refine W_condF rfl ?_ | refine W_tf rfl (fun h => ?_) (fun h => ?_) | refine W_block ?_ | refine endQ_ret ?_ | refine endQ_normal ?_)
      | ((with_reducible first | refine hK _ ?_ | refine hK _ _ ?_); clear hK K)
      | ((first | (with_reducible first | refine ops_cons (fun K hK => ?_) | refine ops_nil ?_ | refine fit_i64 (by omega) ?_ | refine fit_any ?_) | with_reducible refine callV_snap ?_ | (with_reducible first | refine slice_old ?_ | refine idx_map (by omega) ?_ | refine W_reg lv79BdR ?_ | refine W_skip ?_ | refine W_exit ?_ | refine W_ret ?_ | refine end_at0 ?_) | (with_reducible refine And.intro (fun h => ?_) (fun h => ?_)) | (with_reducible refine And.intro (by omega) ?_)); (try simp only [go_sem, seval, reduceCtorEq, hki, lv79BdR, Try.ntmps79, Try.results79, rframesS]))
      | fail)
    refine W_loop (fun x : Nat × (Nat → Bool) => ⟨[(1, .ptr 0 0), (3, .row 1 1 0 N), (4, iv i), (5, iv x.1)], [some (.box 59 [iv N, dN m]), some (.rows 4 1 ((bl N x.2).map encDB))]⟩) (fun x => x.1 ≤ 2 ^ (m[i]).2 ∧ ∀ j, j < N → x.2 j = (frM (m.take i) j || (decide ((m[i]).1 ≤ j) && decide (j < (m[i]).1 + x.1)))) (fun x => 2 ^ (m[i]).2 - x.1) (0, f) ⟨Nat.zero_le _, fun j hj => by dsimp only; rw [hf j hj]; simp; omega⟩ [0, 1] ?_ ?_
    · simp [go_sem]
    rintro ⟨k, g⟩ ⟨hk, hg⟩
    dsimp only at hk hg
    by_cases hkl : k < 2 ^ (m[i]).2
    · have hkk : (k : Int) < ((2 ^ (m[i]).2 : Nat) : Int) := by omega
      have hsum : ((m[i]).1 : Int) + (k : Int) = (((m[i]).1 + k : Nat) : Int) := by omega
      have hlN : (m[i]).1 + k < N := by omega
      have hlN' : (((m[i]).1 + k : Nat) : Int) < N := by omega
      have hset : ((bl N g).map encDB).set ((m[i]).1 + k) [.bool true] = (bl N (upF g ((m[i]).1 + k) true)).map encDB := by rw [← bl_set hlN, List.map_set]; rfl
      have hlb : (m[i]).1 + k < (bl N g).length := by rw [bl_len]; exact hlN
      repeat' (first
        | (with_reducible first | refine W_seq ?_ | refine W_condT rfl ?_ | refine W_condF rfl ?_ | refine W_tf rfl (fun h => ?_) (fun h => ?_) | refine W_block ?_ | refine endQ_ret ?_ | refine endQ_normal ?_)
        | ((with_reducible first | refine hK _ ?_ | refine hK _ _ ?_); clear hK K)
        | ((with_reducible refine idx_map2 hlb ?_); simp only [go_sem, seval, reduceCtorEq, encDB_len, hset])
        | ((first | (with_reducible first | refine ops_cons (fun K hK => ?_) | refine ops_nil ?_ | refine fit_i64 (by omega) ?_ | refine fit_any ?_) | with_reducible refine callV_snap ?_ | ((with_reducible refine call_go nsizeS nsize_ok ?_); refine ⟨(by first | exact alOk_nil _ | exact alOk_f rfl), _, _, nsize_at _ r2, ?_⟩) | (with_reducible first | refine slice_old ?_ | refine idx_map (by omega) ?_ | refine W_reg lv79BdR ?_ | refine W_skip ?_ | refine W_exit ?_ | refine W_ret ?_ | refine end_at0 ?_) | (with_reducible refine And.intro (fun h => ?_) (fun h => ?_)) | (with_reducible refine And.intro (by omega) ?_)); (try simp only [go_sem, seval, reduceCtorEq, hki, encN, hkk, hsum, hlN', hset, lv79BdR, Try.ntmps79, Try.results79, rframesS]))
        | fail)
      refine ⟨(k + 1, upF g ((m[i]).1 + k) true), [0, 1], ⟨hkl, fun j hj => ?_⟩, by dsimp only; omega, ?_⟩
      · unfold upF
        dsimp only
        by_cases e : j = (m[i]).1 + k
        · rw [if_pos e, decide_eq_true (show (m[i]).1 ≤ j by omega), decide_eq_true (show j < (m[i]).1 + (k + 1) by omega)]; simp
        · rw [if_neg e, hg j hj]
          have : decide (j < (m[i]).1 + k) = decide (j < (m[i]).1 + (k + 1)) ∨ ¬ (m[i]).1 ≤ j := by
            by_cases h : (m[i]).1 ≤ j
            · left; rw [Bool.eq_iff_iff]; simp only [decide_eq_true_eq]; omega
            · exact .inr h
          rcases this with h | h
          · rw [h]
          · rw [decide_eq_false h]; simp
      · simp [go_sem]
        exact hset
    · have hkk : ¬ (k : Int) < ((2 ^ (m[i]).2 : Nat) : Int) := by omega
      obtain rfl : k = 2 ^ (m[i]).2 := by omega
      repeat' (first
        | (with_reducible first | refine W_seq ?_ | refine W_condT rfl ?_ | refine W_condF rfl ?_ | refine W_tf rfl (fun h => ?_) (fun h => ?_) | refine W_block ?_ | refine endQ_ret ?_ | refine endQ_normal ?_)
        | ((with_reducible first | refine hK _ ?_ | refine hK _ _ ?_); clear hK K)
        | ((first | (with_reducible first | refine ops_cons (fun K hK => ?_) | refine ops_nil ?_ | refine fit_i64 (by omega) ?_ | refine fit_any ?_) | with_reducible refine callV_snap ?_ | ((with_reducible refine call_go nsizeS nsize_ok ?_); refine ⟨(by first | exact alOk_nil _ | exact alOk_f rfl), _, _, nsize_at _ r2, ?_⟩) | (with_reducible first | refine slice_old ?_ | refine idx_map (by omega) ?_ | refine W_reg lv79BdR ?_ | refine W_skip ?_ | refine W_exit ?_ | refine W_ret ?_ | refine end_at0 ?_) | (with_reducible refine And.intro (fun h => ?_) (fun h => ?_)) | (with_reducible refine And.intro (by omega) ?_)); (try simp only [go_sem, seval, reduceCtorEq, hki, encN, hkk, lv79BdR, Try.ntmps79, Try.results79, rframesS]))
        | fail)
      refine ⟨(i + 1, g), [0, 1], ⟨hlt, fun j hj => ?_⟩, by dsimp only; omega, ?_⟩
      · rw [frM_take m i j hlt]; exact hg j hj
      · simp [go_sem]
  · have hki : ¬ (i : Int) < m.length := by omega
    obtain rfl : i = m.length := by omega
    have e : bl N f = bl N (frM m) := bl_congr (fun j hj => by rw [hf j hj, List.take_length])
    rw [e]
    have hfl := encB.flat (bl N (frM m))
    repeat' (first
      | (with_reducible first | refine W_seq ?_ | refine W_condT rfl ?_ | refine W_condF rfl ?_ | refine W_tf rfl (fun h => ?_) (fun h => ?_) | refine W_block ?_ | refine endQ_ret ?_ | refine endQ_normal ?_)
      | ((with_reducible first | refine hK _ ?_ | refine hK _ _ ?_); clear hK K)
      | ((first | (with_reducible first | refine ops_cons (fun K hK => ?_) | refine ops_nil ?_ | refine fit_i64 (by omega) ?_ | refine fit_any ?_) | with_reducible refine callV_snap ?_ | (with_reducible first | refine slice_old ?_ | refine idx_map (by omega) ?_ | refine W_reg lv79BdR ?_ | refine W_skip ?_ | refine W_exit ?_ | refine end_at0 ?_) | (with_reducible refine And.intro (fun h => ?_) (fun h => ?_)) | (with_reducible refine And.intro (by omega) ?_)); (try simp only [go_sem, seval, reduceCtorEq, hki, lv79BdR, Try.ntmps79, Try.results79, rframesS]))
      | fail)
    refine W_ret (endQ_ret (end_at [1] ?_))
    simp [go_sem, Try.results79, rframesS]
    simpa [flatD, encDB] using hfl

theorem fit_allR {N : Nat} {f : Nat → Bool} {a o : Nat} : fitB N f a o = (decide (a % 2 ^ o = 0) && allR N f a (2 ^ o) true) := by
  unfold fitB allR
  congr 2
  rw [Bool.eq_iff_iff, allF_iff, allWn_iff]
theorem bst_succ {N : Nat} {f : Nat → Bool} {a o : Nat} : bst N f a (o + 1) = if fitB N f a o = true then o else bst N f a o := rfl
def rbuiltS : Spec := { rel := fun args ins res outs => ∃ (N : Nat) (f : Nat → Bool), N ≤ 256 ∧ args = [dB (bl N f)] ∧ ins = [] ∧ res = .agg [iv N, .row 0 2 0 (bld N f).length] ∧ outs = [.rows 87 2 ((bld N f).map encN)] }
theorem rbuilt_at (N : Nat) (f : Nat → Bool) (h : N ≤ 256) : rbuiltS.rel [dB (bl N f)] [] (.agg [iv N, .row 0 2 0 (bld N f).length]) [.rows 87 2 ((bld N f).map encN)] := ⟨N, f, h, rfl, rfl, rfl, rfl⟩
set_option maxHeartbeats 4000000 in
theorem rbuilt_ok : Ok Try.prog 72 rbuiltS := by
  refine fn_ok rbuiltS Try.func72 rfl rfl ?_
  rintro args ins res outs ⟨N, f, hN, rfl, rfl, rfl, rfl⟩
  refine ⟨by simp [Try.ntmps72], fun w0 V Bo mu0 => ?_⟩
  have hL := bl_len N f
  repeat' (first
    | (with_reducible first | refine W_seq ?_ | refine W_condT rfl ?_ | refine W_condF rfl ?_ | refine W_tf rfl (fun h => ?_) (fun h => ?_) | refine W_block ?_ | refine endQ_ret ?_ | refine endQ_normal ?_)
    | ((with_reducible first | refine hK _ ?_ | refine hK _ _ ?_); clear hK K)
    | ((first | (with_reducible first | refine ops_cons (fun K hK => ?_) | refine ops_nil ?_ | refine fit_i64 (by omega) ?_ | refine fit_any ?_ | refine rem_nn (by omega) ?_ | refine rem_any ?_) | with_reducible refine callV_snap ?_ | (with_reducible first | refine app_grow ?_ | refine idx_map (by omega) ?_ | refine W_reg lv72BdR ?_ | refine W_skip ?_ | refine W_exit ?_ | refine W_ret ?_ | refine end_at0 ?_) | (with_reducible refine And.intro (fun h => ?_) (fun h => ?_)) | (with_reducible refine And.intro (by omega) ?_)); (try simp only [go_sem, seval, reduceCtorEq, hL, lv72BdR, Try.ntmps72, Try.results72, rbuiltS]))
    | fail)
  refine W_adoptC (t := 87) (sz := 2) 1 1 (by decide) (by simp only [go_sem, seval, reduceCtorEq]; rfl) rfl ?_
  simp only [go_sem, seval, reduceCtorEq]
  refine W_loop (fun x : Nat × List Bl => ⟨[(0, dB (bl N f)), (2, .ptr 0 0), (3, .ptr 1 0), (4, iv x.1)], [some (.box 59 [iv 0, .nil]), some (.box 59 [iv N, .row 2 2 0 x.2.length]), some (.rows 87 2 (x.2.map encN))]⟩) (fun x => x.1 ≤ N ∧ x.2.length ≤ x.1 ∧ x.2 ++ bldA N f x.1 = bld N f) (fun x => N - x.1) (0, []) ⟨Nat.zero_le _, Nat.zero_le _, rfl⟩ [0, 1, 2] ?_ ?_
  · simp [go_sem, hL]
  rintro ⟨a, acc⟩ ⟨ha, hal, hgo⟩
  dsimp only at ha hal hgo
  by_cases hlt : a < N
  · have hki : (a : Int) < N := by omega
    have hlb : a < (bl N f).length := by omega
    have hb0 : encDB ((bl N f)[a]) = [.bool (f a)] := by rw [bl_get]; rfl
    cases hf : f a with
    | false =>
      rw [hf] at hb0
      rw [bldA_no hlt hf] at hgo
      repeat' (first
        | (with_reducible first | refine W_seq ?_ | refine W_condT rfl ?_ | refine W_condF rfl ?_ | refine W_tf rfl (fun h => ?_) (fun h => ?_) | refine W_block ?_ | refine endQ_ret ?_ | refine endQ_normal ?_)
        | ((with_reducible first | refine hK _ ?_ | refine hK _ _ ?_); clear hK K)
        | ((first | (with_reducible first | refine ops_cons (fun K hK => ?_) | refine ops_nil ?_ | refine fit_i64 (by omega) ?_ | refine fit_any ?_ | refine rem_nn (by omega) ?_ | refine rem_any ?_) | with_reducible refine callV_snap ?_ | (with_reducible first | refine app_grow ?_ | refine idx_map (by omega) ?_ | refine W_reg lv72BdR ?_ | refine W_skip ?_ | refine W_exit ?_ | refine W_ret ?_ | refine end_at0 ?_) | (with_reducible refine And.intro (fun h => ?_) (fun h => ?_)) | (with_reducible refine And.intro (by omega) ?_)); (try simp only [go_sem, seval, reduceCtorEq, hL, hki, hb0, lv72BdR, Try.ntmps72, Try.results72, rbuiltS]))
        | fail)
      refine ⟨(a + 1, acc), [0, 1, 2], ⟨hlt, by dsimp only; omega, hgo⟩, by dsimp only; omega, ?_⟩
      simp [go_sem]
    | true =>
      rw [hf] at hb0
      rw [bldA_yes hlt hf] at hgo
      obtain ⟨f1, f2, f3⟩ := fitB_iff.1 (bst_fit (fit0 hlt hf) 7)
      have h6 := bst_lt (N := N) (f := f) (a := a) 6
      have hp6 := p64 _ h6
      have ha256 : a ≤ 256 := by omega
      repeat' (first
        | (with_reducible first | refine W_seq ?_ | refine W_condT rfl ?_ | refine W_condF rfl ?_ | refine W_tf rfl (fun h => ?_) (fun h => ?_) | refine W_block ?_ | refine endQ_ret ?_ | refine endQ_normal ?_)
        | ((with_reducible first | refine hK _ ?_ | refine hK _ _ ?_); clear hK K)
        | ((first | (with_reducible first | refine ops_cons (fun K hK => ?_) | refine ops_nil ?_ | refine fit_i64 (by omega) ?_ | refine fit_any ?_ | refine rem_nn (by omega) ?_ | refine rem_any ?_) | with_reducible refine callV_snap ?_ | (with_reducible first | refine app_grow ?_ | refine idx_map (by omega) ?_ | refine W_reg lv72BdR ?_ | refine W_skip ?_ | refine W_exit ?_ | refine W_ret ?_ | refine end_at0 ?_) | (with_reducible refine And.intro (fun h => ?_) (fun h => ?_)) | (with_reducible refine And.intro (by omega) ?_)); (try simp only [go_sem, seval, reduceCtorEq, hL, hki, hb0, lv72BdR, Try.ntmps72, Try.results72, rbuiltS]))
        | fail)
      refine W_loop (fun o : Nat => ⟨[(0, dB (bl N f)), (2, .ptr 0 0), (3, .ptr 1 0), (4, iv a), (5, iv (bst N f a o)), (6, iv o)], [some (.box 59 [iv 0, .nil]), some (.box 59 [iv N, .row 2 2 0 acc.length]), some (.rows 87 2 (acc.map encN))]⟩) (fun o => o ≤ 7) (fun o => 7 - o) 0 (Nat.zero_le _) [0, 1, 2] ?_ ?_
      · simp [go_sem, bst]
      intro o ho
      by_cases ho6 : o ≤ 6
      · have hoi : (o : Int) ≤ 6 := by omega
        have hpo := p64 o ho6
        have hmod : (a : Int) % ((2 ^ o : Nat) : Int) = ((a % 2 ^ o : Nat) : Int) := (Int.natCast_emod _ _).symm
        have hne : ¬ ((2 ^ o : Nat) : Int) = 0 := by omega
        have hfit := fit_allR (N := N) (f := f) (a := a) (o := o)
        by_cases hm : a % 2 ^ o = 0
        · have hm2 : ((a % 2 ^ o : Nat) : Int) = 0 := by omega
          cases hA : allR N f a (2 ^ o) true with
          | true =>
            have hst : bst N f a (o + 1) = o := by rw [bst_succ, hfit, hA, decide_eq_true hm]; rfl
            repeat' (first
              | (with_reducible first | refine W_seq ?_ | refine W_condT rfl ?_ | refine W_condF rfl ?_ | refine W_tf rfl (fun h => ?_) (fun h => ?_) | refine W_block ?_ | refine endQ_ret ?_ | refine endQ_normal ?_)
              | ((with_reducible first | refine hK _ ?_ | refine hK _ _ ?_); clear hK K)
              | ((first | (with_reducible first | refine ops_cons (fun K hK => ?_) | refine ops_nil ?_ | refine fit_i64 (by omega) ?_ | refine fit_any ?_ | refine rem_nn (by omega) ?_ | refine rem_any ?_) | with_reducible refine callV_snap ?_ | ((with_reducible refine call_go nsizeS nsize_ok ?_); refine ⟨(by first | exact alOk_nil _ | exact alOk_f rfl), _, _, nsize_at _ ho6, ?_⟩) | ((with_reducible refine call_go rall1S rall1_ok ?_); refine ⟨(by first | exact alOk_nil _ | exact alOk_f rfl), _, _, rall1_at N f a (2 ^ o) hN ha256 hpo.2, ?_⟩) | (with_reducible first | refine app_grow ?_ | refine idx_map (by omega) ?_ | refine W_reg lv72BdR ?_ | refine W_skip ?_ | refine W_exit ?_ | refine W_ret ?_ | refine end_at0 ?_) | (with_reducible refine And.intro (fun h => ?_) (fun h => ?_)) | (with_reducible refine And.intro (by omega) ?_)); (try simp only [go_sem, seval, reduceCtorEq, hoi, hmod, hm2, hne, hA, lv72BdR, Try.ntmps72, Try.results72, rbuiltS]))
              | fail)
            refine ⟨o + 1, [0, 1, 2], by omega, by omega, ?_⟩
            simp [go_sem, hst]
          | false =>
            have hst : bst N f a (o + 1) = bst N f a o := by rw [bst_succ, hfit, hA]; simp
            repeat' (first
              | (with_reducible first | refine W_seq ?_ | refine W_condT rfl ?_ | refine W_condF rfl ?_ | refine W_tf rfl (fun h => ?_) (fun h => ?_) | refine W_block ?_ | refine endQ_ret ?_ | refine endQ_normal ?_)
              | ((with_reducible first | refine hK _ ?_ | refine hK _ _ ?_); clear hK K)
              | ((first | (with_reducible first | refine ops_cons (fun K hK => ?_) | refine ops_nil ?_ | refine fit_i64 (by omega) ?_ | refine fit_any ?_ | refine rem_nn (by omega) ?_ | refine rem_any ?_) | with_reducible refine callV_snap ?_ | ((with_reducible refine call_go nsizeS nsize_ok ?_); refine ⟨(by first | exact alOk_nil _ | exact alOk_f rfl), _, _, nsize_at _ ho6, ?_⟩) | ((with_reducible refine call_go rall1S rall1_ok ?_); refine ⟨(by first | exact alOk_nil _ | exact alOk_f rfl), _, _, rall1_at N f a (2 ^ o) hN ha256 hpo.2, ?_⟩) | (with_reducible first | refine app_grow ?_ | refine idx_map (by omega) ?_ | refine W_reg lv72BdR ?_ | refine W_skip ?_ | refine W_exit ?_ | refine W_ret ?_ | refine end_at0 ?_) | (with_reducible refine And.intro (fun h => ?_) (fun h => ?_)) | (with_reducible refine And.intro (by omega) ?_)); (try simp only [go_sem, seval, reduceCtorEq, hoi, hmod, hm2, hne, hA, lv72BdR, Try.ntmps72, Try.results72, rbuiltS]))
              | fail)
            refine ⟨o + 1, [0, 1, 2], by omega, by omega, ?_⟩
            simp [go_sem, hst]
        · have hm2 : ¬ ((a % 2 ^ o : Nat) : Int) = 0 := by omega
          have hst : bst N f a (o + 1) = bst N f a o := by rw [bst_succ, hfit, decide_eq_false hm]; simp
          repeat' (first
            | (with_reducible first | refine W_seq ?_ | refine W_condT rfl ?_ | refine W_condF rfl ?_ | refine W_tf rfl (fun h => ?_) (fun h => ?_) | refine W_block ?_ | refine endQ_ret ?_ | refine endQ_normal ?_)
            | ((with_reducible first | refine hK _ ?_ | refine hK _ _ ?_); clear hK K)
            | ((first | (with_reducible first | refine ops_cons (fun K hK => ?_) | refine ops_nil ?_ | refine fit_i64 (by omega) ?_ | refine fit_any ?_ | refine rem_nn (by omega) ?_ | refine rem_any ?_) | with_reducible refine callV_snap ?_ | ((with_reducible refine call_go nsizeS nsize_ok ?_); refine ⟨(by first | exact alOk_nil _ | exact alOk_f rfl), _, _, nsize_at _ ho6, ?_⟩) | (with_reducible first | refine app_grow ?_ | refine idx_map (by omega) ?_ | refine W_reg lv72BdR ?_ | refine W_skip ?_ | refine W_exit ?_ | refine W_ret ?_ | refine end_at0 ?_) | (with_reducible refine And.intro (fun h => ?_) (fun h => ?_)) | (with_reducible refine And.intro (by omega) ?_)); (try simp only [go_sem, seval, reduceCtorEq, hoi, hmod, hm2, hne, lv72BdR, Try.ntmps72, Try.results72, rbuiltS]))
            | fail)
          refine ⟨o + 1, [0, 1, 2], by omega, by omega, ?_⟩
          simp [go_sem, hst]
      · have hoi : ¬ (o : Int) ≤ 6 := by omega
        obtain rfl : o = 7 := by omega
        have hadd : (a : Int) + ((2 ^ bst N f a 7 : Nat) : Int) = ((a + 2 ^ bst N f a 7 : Nat) : Int) := by omega
        generalize bst N f a 7 = B at *
        repeat' (first
          | (with_reducible first | refine W_seq ?_ | refine W_condT rfl ?_ | refine W_condF rfl ?_ | refine W_tf rfl (fun h => ?_) (fun h => ?_) | refine W_block ?_ | refine endQ_ret ?_ | refine endQ_normal ?_)
          | ((with_reducible first | refine hK _ ?_ | refine hK _ _ ?_); clear hK K)
          | ((with_reducible refine And.intro (encNe.rows _) ?_))
          | ((first | (with_reducible first | refine ops_cons (fun K hK => ?_) | refine ops_nil ?_ | refine fit_i64 (by omega) ?_ | refine fit_any ?_ | refine rem_nn (by omega) ?_ | refine rem_any ?_) | with_reducible refine callV_snap ?_ | ((with_reducible refine call_go nsizeS nsize_ok ?_); refine ⟨(by first | exact alOk_nil _ | exact alOk_f rfl), _, _, nsize_at _ h6, ?_⟩) | (with_reducible first | refine app_grow ?_ | refine idx_map (by omega) ?_ | refine W_reg lv72BdR ?_ | refine W_skip ?_ | refine W_exit ?_ | refine end_at0 ?_) | (with_reducible refine And.intro (fun h => ?_) (fun h => ?_)) | (with_reducible refine And.intro (by omega) ?_)); (try simp only [go_sem, seval, reduceCtorEq, hoi, hadd, lv72BdR, Try.ntmps72, Try.results72, rbuiltS]))
          | fail)
        refine ⟨(a + 2 ^ B, acc ++ [(a, B)]), [0, 1, 4], ⟨f2, by simp; omega, by simpa using hgo⟩, by dsimp only; omega, ?_⟩
        simp [go_sem, encN]
  · have hki : ¬ (a : Int) < N := by omega
    rw [bldA_end (by omega), List.append_nil] at hgo
    rw [← hgo]
    have hfl := encNe.flat acc
    repeat' (first
      | (with_reducible first | refine W_seq ?_ | refine W_condT rfl ?_ | refine W_condF rfl ?_ | refine W_tf rfl (fun h => ?_) (fun h => ?_) | refine W_block ?_ | refine endQ_ret ?_ | refine endQ_normal ?_)
      | ((with_reducible first | refine hK _ ?_ | refine hK _ _ ?_); clear hK K)
      | ((first | (with_reducible first | refine ops_cons (fun K hK => ?_) | refine ops_nil ?_ | refine fit_i64 (by omega) ?_ | refine fit_any ?_ | refine rem_nn (by omega) ?_ | refine rem_any ?_) | with_reducible refine callV_snap ?_ | (with_reducible first | refine app_grow ?_ | refine idx_map (by omega) ?_ | refine W_reg lv72BdR ?_ | refine W_skip ?_ | refine W_exit ?_ | refine end_at0 ?_) | (with_reducible refine And.intro (fun h => ?_) (fun h => ?_)) | (with_reducible refine And.intro (by omega) ?_)); (try simp only [go_sem, seval, reduceCtorEq, hL, hki, lv72BdR, Try.ntmps72, Try.results72, rbuiltS]))
      | fail)
    refine W_ret (endQ_ret (end_at [2] ?_))
    simp [go_sem, Try.results72, rbuiltS]
    simpa [flatD, encN] using hfl
end Go.Proofs.Ytacfipmigkbncaa
