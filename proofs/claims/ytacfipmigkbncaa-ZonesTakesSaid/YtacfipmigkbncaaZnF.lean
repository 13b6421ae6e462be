/- The kit's OwnZones, SameZones; light, the examples, ZonesLooks; by the engine. -/
import Derived.Test.YtacfipmigkbncaaZnE
namespace Go.Proofs.Ytacfipmigkbncaa
open Go.RowKit
set_option maxRecDepth 100000
set_option linter.unusedSimpArgs false
set_option linter.unusedVariables false

abbrev lv11ZnF : List (Nat × List Nat) := [(0, [1]), (1, [1, 7]), (2, [2]), (3, [1, 3]), (4, [1, 3, 12]), (5, [1, 3]), (6, [1, 3, 22]), (7, [2]), (8, [2])]
abbrev lv12ZnF : List (Nat × List Nat) := [(0, []), (1, [1, 2]), (2, [1, 2, 3, 4]), (3, [2, 3, 4, 6, 7]), (4, [0])]
abbrev lv13ZnF : List (Nat × List Nat) := [(0, [1, 2]), (1, [1, 2, 3]), (2, [1, 2, 3, 4]), (3, [1, 2, 3, 4, 12]), (4, [1, 2, 3, 4]), (5, [1, 2, 3, 4]), (6, [2])]
abbrev lv16ZnF : List (Nat × List Nat) := [(0, [2, 3]), (1, [2, 3, 19]), (2, [4]), (3, [2, 3, 5]), (4, [2, 3, 5, 24]), (5, [2, 3, 5]), (6, [2, 3, 5, 38]), (7, [4]), (8, [4])]
def OwnZS : Spec := { al := true, rel := fun args ins res outs => ∃ (low : Int) (zs : List Zo), zs.length ≤ 1000000 ∧ (∀ z ∈ zs, z.2.length ≤ 1000000) ∧ args = [zzv low zs] ∧ ins = [] ∧ res = .agg [iv low, .row 0 2 0 zs.length] ∧ outs = [.rows 59 2 (zs.map encZi)] }
set_option maxHeartbeats 2000000 in
theorem OwnZ_ok : Ok Try.prog 13 OwnZS := by
  refine fn_ok OwnZS Try.func13 rfl rfl ?_
  rintro args ins res outs ⟨low, zs, hl, hz, rfl, rfl, rfl, rfl⟩
  refine ⟨by simp [Try.ntmps13], fun w0 V Bo mu0 => ?_⟩
  repeat' (first
    | (with_reducible first | refine W_seq ?_ | refine W_condT rfl ?_ | refine W_condF rfl ?_ | refine W_tf rfl (fun h => ?_) (fun h => ?_) | refine W_block ?_ | refine endQ_ret ?_ | refine endQ_normal ?_)
    | ((with_reducible first | refine hK _ ?_ | refine hK _ _ ?_); clear hK K)
    | ((first | (with_reducible first | refine ops_cons (fun K hK => ?_) | refine opsd_cons (fun K hK => ?_) | refine ops_nil ?_ | refine fit_i64 (by omega) ?_ | refine fit_any ?_) | ((with_reducible refine opsd_nil ?_); refine And.intro (by kernel_rfl) ?_) | with_reducible refine callV_snap ?_ | (with_reducible first | refine app_grow ?_ | refine idx_map (by omega) ?_ | refine W_reg lv13ZnF ?_ | refine W_drw lv13ZnF (by kernel_rfl) ?_ | refine W_skip ?_ | refine W_exit ?_ | refine W_ret ?_ | refine end_at0 ?_) | (with_reducible refine And.intro (fun h => ?_) (fun h => ?_)) | (with_reducible refine And.intro (by omega) ?_)); (try simp only [go_sem, seval, reduceCtorEq, lv13ZnF, Try.ntmps13, Try.results13, OwnZS]))
    | fail)
  refine W_adoptC (t := 59) (sz := 2) 2 1 (by decide) (by simp only [go_sem, seval, reduceCtorEq]; rfl) rfl ?_
  refine W_loop (fun k : Nat => ⟨[(1, .ptr 0 0), (2, .ptr 1 0), (3, .ptr 2 0), (4, iv k)], [some (.box 24 [iv low, .d (.sl (zs.map encZi))]), some (.box 24 [iv 0, .nil]), some (.box 24 [iv low, .row 3 2 0 k]), some (.rows 59 2 ((zs.take k).map encZi))]⟩) (fun k => k ≤ zs.length) (fun k => zs.length - k) 0 (Nat.zero_le _) [0, 1, 2, 3] ?_ ?_
  · simp [go_sem]
  intro k hk
  by_cases hlt : k < zs.length
  · have hki : (k : Int) < zs.length := by omega
    have hzk := hz _ (List.getElem_mem hlt)
    have e0 : encZi zs[k] = [.int .i64 zs[k].1, .sl (zs[k].2.map encBk)] := rfl
    have hlk : ((zs.take k).map encZi).length = k := by simp; omega
    repeat' (first
      | (with_reducible first | refine W_seq ?_ | refine W_condT rfl ?_ | refine W_condF rfl ?_ | refine W_tf rfl (fun h => ?_) (fun h => ?_) | refine W_block ?_ | refine endQ_ret ?_ | refine endQ_normal ?_)
      | ((with_reducible first | refine hK _ ?_ | refine hK _ _ ?_); clear hK K)
      | ((first | (with_reducible first | refine ops_cons (fun K hK => ?_) | refine opsd_cons (fun K hK => ?_) | refine ops_nil ?_ | refine fit_i64 (by omega) ?_ | refine fit_any ?_) | ((with_reducible refine opsd_nil ?_); refine And.intro (by kernel_rfl) ?_) | with_reducible refine callV_snap ?_ | ((with_reducible refine call_go OwnBFS OwnBF_ok ?_); refine ⟨(by first | exact alOk_nil _ | exact alOk_f rfl), _, _, OwnBF_at zs[k].1 zs[k].2 hzk, ?_⟩) | (with_reducible first | refine app_grow ?_ | refine idx_map (by omega) ?_ | refine W_reg lv13ZnF ?_ | refine W_drw lv13ZnF (by kernel_rfl) ?_ | refine W_skip ?_ | refine W_exit ?_ | refine W_ret ?_ | refine end_at0 ?_) | (with_reducible refine And.intro (fun h => ?_) (fun h => ?_)) | (with_reducible refine And.intro (by omega) ?_)); (try simp only [go_sem, seval, reduceCtorEq, hki, e0, hlk, lv13ZnF, Try.ntmps13, Try.results13, OwnZS]))
      | fail)
    refine ⟨k + 1, [0, 1, 2, 5], by omega, by omega, ?_⟩
    have ht : (zs.take (k + 1)).map encZi = (zs.take k).map encZi ++ [[.int .i64 zs[k].1, .sl (zs[k].2.map encBk)]] := by
      rw [take_get zs k hlt, List.map_append]; rfl
    simp [go_sem, ht, List.take_take]
  · have hki : ¬ (k : Int) < zs.length := by omega
    obtain rfl : k = zs.length := by omega
    repeat' (first
      | (with_reducible first | refine W_seq ?_ | refine W_condT rfl ?_ | refine W_condF rfl ?_ | refine W_tf rfl (fun h => ?_) (fun h => ?_) | refine W_block ?_ | refine endQ_ret ?_ | refine endQ_normal ?_)
      | ((with_reducible first | refine hK _ ?_ | refine hK _ _ ?_); clear hK K)
      | ((first | (with_reducible first | refine ops_cons (fun K hK => ?_) | refine opsd_cons (fun K hK => ?_) | refine ops_nil ?_ | refine fit_i64 (by omega) ?_ | refine fit_any ?_) | ((with_reducible refine opsd_nil ?_); refine And.intro (by kernel_rfl) ?_) | with_reducible refine callV_snap ?_ | (with_reducible first | refine app_grow ?_ | refine idx_map (by omega) ?_ | refine W_reg lv13ZnF ?_ | refine W_drw lv13ZnF (by kernel_rfl) ?_ | refine W_skip ?_ | refine W_exit ?_ | refine end_at0 ?_) | (with_reducible refine And.intro (fun h => ?_) (fun h => ?_)) | (with_reducible refine And.intro (by omega) ?_)); (try simp only [go_sem, seval, reduceCtorEq, hki, lv13ZnF, Try.ntmps13, Try.results13, OwnZS]))
      | fail)
    refine W_ret (endQ_ret (end_at [3] ?_))
    simp [go_sem, Try.results13, OwnZS]
abbrev OwnZFS : Spec := frzS OwnZS
theorem OwnZF_ok : Ok Try.prog 13 OwnZFS := frzS_ok OwnZ_ok
theorem OwnZF_at (low : Int) (zs : List Zo) (h1 : zs.length ≤ 1000000) (h2 : ∀ z ∈ zs, z.2.length ≤ 1000000) : OwnZFS.rel [zzv low zs] [] (zzv low zs) [] := ⟨rfl, rfl, _, _, ⟨low, zs, h1, h2, rfl, rfl, rfl, rfl⟩, by simp [frz, frzA, frzL, frz1, List.take_of_length_le]⟩
def SmZS : Spec := { rel := fun args ins res outs => ∃ (low : Int) (zs : List Zo), zs.length ≤ 1000000 ∧ (∀ z ∈ zs, z.2.length ≤ 1000000) ∧ args = [zzv low zs, zzv low zs] ∧ ins = [] ∧ res = bv true ∧ outs = [] }
theorem SmZ_at (low : Int) (zs : List Zo) (h1 : zs.length ≤ 1000000) (h2 : ∀ z ∈ zs, z.2.length ≤ 1000000) : SmZS.rel [zzv low zs, zzv low zs] [] (bv true) [] := ⟨low, zs, h1, h2, rfl, rfl, rfl, rfl⟩
set_option maxHeartbeats 2000000 in
theorem SmZ_ok : Ok Try.prog 16 SmZS := by
  refine fn_ok SmZS Try.func16 rfl rfl ?_
  rintro args ins res outs ⟨low, zs, hl, hz, rfl, rfl, rfl, rfl⟩
  refine ⟨by simp [Try.ntmps16], fun w0 V Bo mu0 => ?_⟩
  repeat' (first
    | (with_reducible first | refine W_seq ?_ | refine W_condT rfl ?_ | refine W_condF rfl ?_ | refine W_tf rfl (fun h => ?_) (fun h => ?_) | refine W_block ?_ | refine endQ_ret ?_ | refine endQ_normal ?_)
    | ((with_reducible first | refine hK _ ?_ | refine hK _ _ ?_); clear hK K)
    | ((first | (with_reducible first | refine ops_cons (fun K hK => ?_) | refine opsd_cons (fun K hK => ?_) | refine ops_nil ?_ | refine fit_i64 (by omega) ?_ | refine fit_any ?_) | ((with_reducible refine opsd_nil ?_); refine And.intro (by kernel_rfl) ?_) | with_reducible refine callV_snap ?_ | (with_reducible first | refine idx_map (by omega) ?_ | refine W_reg lv16ZnF ?_ | refine W_drw lv16ZnF (by kernel_rfl) ?_ | refine W_skip ?_ | refine W_exit ?_ | refine W_ret ?_ | refine end_at0 ?_) | (with_reducible refine And.intro (fun h => ?_) (fun h => ?_)) | (with_reducible refine And.intro (by omega) ?_)); (try simp only [go_sem, seval, reduceCtorEq, lv16ZnF, Try.ntmps16, Try.results16, SmZS]))
    | fail)
  refine W_loop (fun k : Nat => ⟨[(2, .ptr 0 0), (3, .ptr 1 0), (5, iv k)], [some (.box 24 [iv low, .d (.sl (zs.map encZi))]), some (.box 24 [iv low, .d (.sl (zs.map encZi))])]⟩) (fun k => k ≤ zs.length) (fun k => zs.length - k) 0 (Nat.zero_le _) [0, 1] ?_ ?_
  · simp [go_sem]
  intro k hk
  by_cases hlt : k < zs.length
  · have hki : (k : Int) < zs.length := by omega
    have hzk := hz _ (List.getElem_mem hlt)
    have e0 : encZi zs[k] = [.int .i64 zs[k].1, .sl (zs[k].2.map encBk)] := rfl
    repeat' (first
      | (with_reducible first | refine W_seq ?_ | refine W_condT rfl ?_ | refine W_condF rfl ?_ | refine W_tf rfl (fun h => ?_) (fun h => ?_) | refine W_block ?_ | refine endQ_ret ?_ | refine endQ_normal ?_)
      | ((with_reducible first | refine hK _ ?_ | refine hK _ _ ?_); clear hK K)
      | ((first | (with_reducible first | refine ops_cons (fun K hK => ?_) | refine opsd_cons (fun K hK => ?_) | refine ops_nil ?_ | refine fit_i64 (by omega) ?_ | refine fit_any ?_) | ((with_reducible refine opsd_nil ?_); refine And.intro (by kernel_rfl) ?_) | with_reducible refine callV_snap ?_ | ((with_reducible refine call_go SameZS SameZ_ok ?_); refine ⟨(by first | exact alOk_nil _ | exact alOk_f rfl), _, _, SameZ_at zs[k].1 zs[k].2 hzk, ?_⟩) | (with_reducible first | refine idx_map (by omega) ?_ | refine W_reg lv16ZnF ?_ | refine W_drw lv16ZnF (by kernel_rfl) ?_ | refine W_skip ?_ | refine W_exit ?_ | refine W_ret ?_ | refine end_at0 ?_) | (with_reducible refine And.intro (fun h => ?_) (fun h => ?_)) | (with_reducible refine And.intro (by omega) ?_)); (try simp only [go_sem, seval, reduceCtorEq, hki, e0, lv16ZnF, Try.ntmps16, Try.results16, SmZS]))
      | fail)
    refine ⟨k + 1, [0, 1], by omega, by omega, ?_⟩
    simp [go_sem]
  · have hki : ¬ (k : Int) < zs.length := by omega
    repeat' (first
      | (with_reducible first | refine W_seq ?_ | refine W_condT rfl ?_ | refine W_condF rfl ?_ | refine W_tf rfl (fun h => ?_) (fun h => ?_) | refine W_block ?_ | refine endQ_ret ?_ | refine endQ_normal ?_)
      | ((with_reducible first | refine hK _ ?_ | refine hK _ _ ?_); clear hK K)
      | ((first | (with_reducible first | refine ops_cons (fun K hK => ?_) | refine opsd_cons (fun K hK => ?_) | refine ops_nil ?_ | refine fit_i64 (by omega) ?_ | refine fit_any ?_) | ((with_reducible refine opsd_nil ?_); refine And.intro (by kernel_rfl) ?_) | with_reducible refine callV_snap ?_ | (with_reducible first | refine idx_map (by omega) ?_ | refine W_reg lv16ZnF ?_ | refine W_drw lv16ZnF (by kernel_rfl) ?_ | refine W_skip ?_ | refine W_exit ?_ | refine W_ret ?_ | refine end_at0 ?_) | (with_reducible refine And.intro (fun h => ?_) (fun h => ?_)) | (with_reducible refine And.intro (by omega) ?_)); (try simp only [go_sem, seval, reduceCtorEq, hki, lv16ZnF, Try.ntmps16, Try.results16, SmZS]))
      | fail)
def lghtS : Spec := { rel := fun args ins res outs => ∃ (low : Int) (zs : List Zo), zs.length ≤ 9223372036854775807 ∧ (∀ z ∈ zs, z.2.length ≤ 9223372036854775807) ∧ args = [zzv low zs] ∧ ins = [] ∧ res = bv (decide (zs.length ≤ 3 ∧ ∀ z ∈ zs, z.2.length ≤ 130)) ∧ outs = [] }
theorem lght_at (low : Int) (zs : List Zo) (h1 : zs.length ≤ 9223372036854775807) (h2 : ∀ z ∈ zs, z.2.length ≤ 9223372036854775807) : lghtS.rel [zzv low zs] [] (bv (decide (zs.length ≤ 3 ∧ ∀ z ∈ zs, z.2.length ≤ 130))) [] := ⟨low, zs, h1, h2, rfl, rfl, rfl, rfl⟩
set_option maxHeartbeats 2000000 in
theorem lght_ok : Ok Try.prog 11 lghtS := by
  refine fn_ok lghtS Try.func11 rfl rfl ?_
  rintro args ins res outs ⟨low, zs, hl, hz, rfl, rfl, rfl, rfl⟩
  refine ⟨by simp [Try.ntmps11], fun w0 V Bo mu0 => ?_⟩
  by_cases h3 : (3 : Int) < zs.length
  · rw [decide_eq_false (by omega)]
    repeat' (first
      | (with_reducible first | refine W_seq ?_ | refine W_condT rfl ?_ | refine W_condF rfl ?_ | refine W_tf rfl (fun h => ?_) (fun h => ?_) | refine W_block ?_ | refine endQ_ret ?_ | refine endQ_normal ?_)
      | ((with_reducible first | refine hK _ ?_ | refine hK _ _ ?_); clear hK K)
      | ((first | (with_reducible first | refine ops_cons (fun K hK => ?_) | refine ops_nil ?_ | refine fit_i64 (by omega) ?_ | refine fit_any ?_) | with_reducible refine callV_snap ?_ | (with_reducible first | refine idx_map (by omega) ?_ | refine W_reg lv11ZnF ?_ | refine W_skip ?_ | refine W_exit ?_ | refine W_ret ?_ | refine end_at0 ?_) | (with_reducible refine And.intro (fun h => ?_) (fun h => ?_)) | (with_reducible refine And.intro (by omega) ?_)); (try simp only [go_sem, seval, reduceCtorEq, h3, lv11ZnF, Try.ntmps11, Try.results11, lghtS]))
      | fail)
  · skip
    repeat' (first
      | (with_reducible first | refine W_seq ?_ | refine W_condT rfl ?_ | refine W_condF rfl ?_ | refine W_tf rfl (fun h => ?_) (fun h => ?_) | refine W_block ?_ | refine endQ_ret ?_ | refine endQ_normal ?_)
      | ((with_reducible first | refine hK _ ?_ | refine hK _ _ ?_); clear hK K)
      | ((first | (with_reducible first | refine ops_cons (fun K hK => ?_) | refine ops_nil ?_ | refine fit_i64 (by omega) ?_ | refine fit_any ?_) | with_reducible refine callV_snap ?_ | (with_reducible first | refine idx_map (by omega) ?_ | refine W_reg lv11ZnF ?_ | refine W_skip ?_ | refine W_exit ?_ | refine W_ret ?_ | refine end_at0 ?_) | (with_reducible refine And.intro (fun h => ?_) (fun h => ?_)) | (with_reducible refine And.intro (by omega) ?_)); (try simp only [go_sem, seval, reduceCtorEq, h3, lv11ZnF, Try.ntmps11, Try.results11, lghtS]))
      | fail)
    refine W_loop (fun k : Nat => ⟨[(1, .ptr 0 0), (3, iv k)], [some (.box 24 [iv low, .d (.sl (zs.map encZi))])]⟩) (fun k => k ≤ zs.length ∧ ∀ z ∈ zs.take k, z.2.length ≤ 130) (fun k => zs.length - k) 0 ⟨Nat.zero_le _, by simp⟩ [0] ?_ ?_
    · simp [go_sem]
    rintro k ⟨hk, hb⟩
    by_cases hlt : k < zs.length
    · have hki : (k : Int) < zs.length := by omega
      have hzk := hz _ (List.getElem_mem hlt)
      have e0 : encZi zs[k] = [.int .i64 zs[k].1, .sl (zs[k].2.map encBk)] := rfl
      by_cases h1 : (130 : Int) < zs[k].2.length
      · rw [decide_eq_false (fun h => by have := h.2 _ (List.getElem_mem hlt); omega)]
        repeat' (first
          | (with_reducible first | refine W_seq ?_ | refine W_condT rfl ?_ | refine W_condF rfl ?_ | refine W_tf rfl (fun h => ?_) (fun h => ?_) | refine W_block ?_ | refine endQ_ret ?_ | refine endQ_normal ?_)
          | ((with_reducible first | refine hK _ ?_ | refine hK _ _ ?_); clear hK K)
          | ((first | (with_reducible first | refine ops_cons (fun K hK => ?_) | refine ops_nil ?_ | refine fit_i64 (by omega) ?_ | refine fit_any ?_) | with_reducible refine callV_snap ?_ | (with_reducible first | refine idx_map (by omega) ?_ | refine W_reg lv11ZnF ?_ | refine W_skip ?_ | refine W_exit ?_ | refine W_ret ?_ | refine end_at0 ?_) | (with_reducible refine And.intro (fun h => ?_) (fun h => ?_)) | (with_reducible refine And.intro (by omega) ?_)); (try simp only [go_sem, seval, reduceCtorEq, hki, e0, h1, lv11ZnF, Try.ntmps11, Try.results11, lghtS]))
          | fail)
      · skip
        repeat' (first
          | (with_reducible first | refine W_seq ?_ | refine W_condT rfl ?_ | refine W_condF rfl ?_ | refine W_tf rfl (fun h => ?_) (fun h => ?_) | refine W_block ?_ | refine endQ_ret ?_ | refine endQ_normal ?_)
          | ((with_reducible first | refine hK _ ?_ | refine hK _ _ ?_); clear hK K)
          | ((first | (with_reducible first | refine ops_cons (fun K hK => ?_) | refine ops_nil ?_ | refine fit_i64 (by omega) ?_ | refine fit_any ?_) | with_reducible refine callV_snap ?_ | (with_reducible first | refine idx_map (by omega) ?_ | refine W_reg lv11ZnF ?_ | refine W_skip ?_ | refine W_exit ?_ | refine W_ret ?_ | refine end_at0 ?_) | (with_reducible refine And.intro (fun h => ?_) (fun h => ?_)) | (with_reducible refine And.intro (by omega) ?_)); (try simp only [go_sem, seval, reduceCtorEq, hki, e0, h1, lv11ZnF, Try.ntmps11, Try.results11, lghtS]))
          | fail)
        refine ⟨k + 1, [0], ⟨by omega, fun z hz' => ?_⟩, by omega, ?_⟩
        · rw [take_get zs k hlt] at hz'
          rcases List.mem_append.1 hz' with h | h
          · exact hb z h
          · simp at h; subst h; omega
        · simp [go_sem]
    · have hki : ¬ (k : Int) < zs.length := by omega
      obtain rfl : k = zs.length := by omega
      rw [List.take_length] at hb
      rw [decide_eq_true ⟨by omega, hb⟩]
      repeat' (first
        | (with_reducible first | refine W_seq ?_ | refine W_condT rfl ?_ | refine W_condF rfl ?_ | refine W_tf rfl (fun h => ?_) (fun h => ?_) | refine W_block ?_ | refine endQ_ret ?_ | refine endQ_normal ?_)
        | ((with_reducible first | refine hK _ ?_ | refine hK _ _ ?_); clear hK K)
        | ((first | (with_reducible first | refine ops_cons (fun K hK => ?_) | refine ops_nil ?_ | refine fit_i64 (by omega) ?_ | refine fit_any ?_) | with_reducible refine callV_snap ?_ | (with_reducible first | refine idx_map (by omega) ?_ | refine W_reg lv11ZnF ?_ | refine W_skip ?_ | refine W_exit ?_ | refine W_ret ?_ | refine end_at0 ?_) | (with_reducible refine And.intro (fun h => ?_) (fun h => ?_)) | (with_reducible refine And.intro (by omega) ?_)); (try simp only [go_sem, seval, reduceCtorEq, hki, lv11ZnF, Try.ntmps11, Try.results11, lghtS]))
        | fail)

abbrev NewZFS : Spec := frzS NewZS
abbrev rNewZFS : Spec := frzS NewZS
theorem NewZF_ok : Ok Try.prog 20 NewZFS := frzS_ok NewZ_ok
theorem rNewZF_ok : Ok Try.prog 21 rNewZFS := frzS_ok rNewZ_ok
abbrev zAllFS : Spec := frzS zAllS
theorem zAllF_ok : Ok Try.prog 14 zAllFS := frzS_ok zAll_ok
theorem newz_at {N M : Nat} (h1 : 1 ≤ N) (h2 : N + M ≤ 256) : NewZFS.rel [iv ((N + M : Nat) : Int), iv N] [] (.tup [zzn N (newZ N) (newZ M), iv 0]) [] := ⟨rfl, rfl, _, _, .inr ⟨N, M, h1, h2, rfl, rfl, rfl, rfl⟩, by simp [frz, frzA, frzAL, frzL, frz1, newZ]⟩
theorem zall_at {a b : Zn} {q : Nat} {p : Int} (hv : Vzz a b) (hq : q ≤ 6) (hp : p = 0 ∨ p = 1) : zAllFS.rel [zzn a.1 a b, iv q, iv p] [] (alcF a.1 (alcZ a b q p)) [] := ⟨rfl, rfl, _, _, .inr ⟨a, b, q, p, hv, hq, hp, rfl, rfl, rfl, rfl⟩, by cases alcZ a b q p <;> simp [alcF, frz, frzA, frzAL, frzL, frz1]⟩
theorem e_n8 : newZ 8 = (8, [(0, 3)]) := by decide +kernel
theorem e_n4 : newZ 4 = (4, [(0, 2)]) := by decide +kernel
theorem v84 : Vzz (8, [(0, 3)]) (4, [(0, 2)]) := by rw [← e_n8, ← e_n4]; exact vzz_new (by decide) (by decide)
abbrev ab8 : Zn := (8, [(0, 3)])
abbrev ab4 : Zn := (4, [(0, 2)])
def begS : Spec := { al := true, rel := fun args ins res outs => args = [] ∧ ins = [] ∧ res = .tup [zzn 8 ab8 ab4, bv true] ∧ outs = [] }
theorem beg_at : begS.rel [] [] (.tup [zzn 8 ab8 ab4, bv true]) [] := ⟨rfl, rfl, rfl, rfl⟩
theorem beg_ok : Ok Try.prog 36 begS := by
  refine fn_ok begS Try.func36 rfl rfl ?_
  rintro args ins res outs ⟨rfl, rfl, rfl, rfl⟩
  refine ⟨by simp [Try.ntmps36], fun w0 V Bo mu0 => ?_⟩
  have NewZF_at : NewZFS.rel [iv 12, iv 8] [] (.tup [zzn 8 ab8 ab4, iv 0]) [] := by
    have := newz_at (N := 8) (M := 4) (by decide) (by decide)
    rwa [e_n8, e_n4] at this
  repeat' (first
    | (with_reducible first | refine W_seq ?_ | refine endQ_ret ?_ | refine endQ_normal ?_)
    | ((with_reducible first | refine hK _ ?_ | refine hK _ _ ?_); clear hK K)
    | ((first | (with_reducible first | refine ops_cons (fun K hK => ?_) | refine ops_nil ?_) | with_reducible refine callV_snap ?_ | ((with_reducible refine call_go NewZFS NewZF_ok ?_); refine ⟨(by first | exact alOk_nil _ | exact alOk_f rfl), _, _, NewZF_at , ?_⟩) | (with_reducible first | refine W_reg [(0, [0]), (1, [0, 2, 3]), (2, [0, 1])] ?_ | refine W_ret ?_ | refine end_at0 ?_) | (with_reducible refine And.intro (fun h => ?_) (fun h => ?_)) | (with_reducible refine And.intro (by omega) ?_)); (try simp only [go_sem, seval, reduceCtorEq, Try.ntmps36, Try.results36, begS]))
    | fail)
def awkS : Spec := { rel := fun args ins res outs => args = [] ∧ ins = [] ∧ res = bv true ∧ outs = [] }
theorem awk_at : awkS.rel [] [] (bv true) [] := ⟨rfl, rfl, rfl, rfl⟩
theorem e_al21 : alcZ ab8 ab4 2 1 = some ((8, [(0, 3)]), (4, []), 8) := by decide +kernel
theorem awk_ok : Ok Try.prog 12 awkS := by
  refine fn_ok awkS Try.func12 rfl rfl ?_
  rintro args ins res outs ⟨rfl, rfl, rfl, rfl⟩
  refine ⟨by simp [Try.ntmps12], fun w0 V Bo mu0 => ?_⟩
  have zAllF_at : zAllFS.rel [zzn 8 ab8 ab4, iv 2, iv 1] [] (.tup [zzn 8 (8, [(0, 3)]) (4, []), iv 8, iv 0]) [] := by
    have := zall_at (q := 2) (p := 1) v84 (by decide) (.inr rfl)
    rwa [e_al21] at this
  have TsF_at : TsFS.rel [zzn 8 ab8 ab4] [] (.tup [.d (.sl [[.int .i64 8], [.int .i64 4]]), iv 0]) [] :=
    ⟨rfl, rfl, _, _, .inr ⟨ab8, ab4, v84, rfl, rfl, rfl, rfl⟩, by simp [frz, frzA, frzAL, frz1, tot, totTo]⟩
  have s84 : SameIS.rel [.d (.sl [[.int .i64 8], [.int .i64 4]]), .d (.sl [[.int .i64 8], [.int .i64 4]])] [] (bv true) [] := SameI_at [8, 4] (by decide)
  have SameI_at : SameIS.rel [.d (.sl [[.int .i64 8], [.int .i64 4]]), .d (.sl [[.int .i64 8], [.int .i64 4]])] [] (bv true) [] := s84
  repeat' (first
    | (with_reducible first | refine W_seq ?_ | refine endQ_ret ?_ | refine endQ_normal ?_)
    | ((with_reducible first | refine hK _ ?_ | refine hK _ _ ?_); clear hK K)
    | ((first | (with_reducible first | refine ops_cons (fun K hK => ?_) | refine ops_nil ?_) | with_reducible refine callV_snap ?_ | ((with_reducible refine call_go begS beg_ok ?_); refine ⟨(by first | exact alOk_nil _ | exact alOk_f rfl), _, _, beg_at , ?_⟩) | ((with_reducible refine call_go zAllFS zAllF_ok ?_); refine ⟨(by first | exact alOk_nil _ | exact alOk_f rfl), _, _, zAllF_at , ?_⟩) | ((with_reducible refine call_go TsFS TsF_ok ?_); refine ⟨(by first | exact alOk_nil _ | exact alOk_f rfl), _, _, TsF_at , ?_⟩) | ((with_reducible refine call_go SameIS SameI_ok ?_); refine ⟨(by first | exact alOk_nil _ | exact alOk_f rfl), _, _, SameI_at , ?_⟩) | (with_reducible first | refine W_reg lv12ZnF ?_ | refine W_ret ?_ | refine end_at0 ?_) | (with_reducible refine And.intro (fun h => ?_) (fun h => ?_)) | (with_reducible refine And.intro (by omega) ?_)); (try simp only [go_sem, seval, reduceCtorEq, lv12ZnF, Try.ntmps12, Try.results12, awkS]))
    | fail)
end Go.Proofs.Ytacfipmigkbncaa
