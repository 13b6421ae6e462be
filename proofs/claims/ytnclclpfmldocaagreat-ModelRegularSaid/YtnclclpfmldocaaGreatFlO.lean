/- A flat memory opened: its values in a map; by the engine. -/
import Derived.Test.YtnclclpfmldocaaGreatFlM
import Derived.Test.YtnclclpfmldocaaGreatFlI
namespace Go.Proofs.YtnclclpfmldocaaGreat
open Go.RowKit
set_option maxRecDepth 100000
set_option linter.unusedSimpArgs false
set_option linter.unusedVariables false

abbrev lv106FlO : List (Nat × List Nat) := [(0, [1, 2]), (1, [1, 2, 3]), (2, [2, 3, 18, 19, 20]), (3, [2, 3, 18, 19, 20, 21]), (4, [2, 3, 5, 18, 19, 20]), (5, [2, 3, 18, 19, 20]), (6, [2, 3, 18, 19, 20]), (7, [2])]
def ClBS : Spec := { rel := fun args ins res outs => ∃ c : List Bool, c.length ≤ 1000000 ∧ args = [.d (.sl (c.map encDB))] ∧ ins = [] ∧ res = .row 0 1 0 c.length ∧ outs = [.rows 4 1 (c.map encDB)] }
theorem ClB_at (c : List Bool) (h : c.length ≤ 1000000) : ClBS.rel [.d (.sl (c.map encDB))] [] (.row 0 1 0 c.length) [.rows 4 1 (c.map encDB)] := ⟨c, h, rfl, rfl, rfl, rfl⟩
theorem ClB_ok : Ok Tryz.prog 117 ClBS := by
  refine fn_ok ClBS Tryz.func117 rfl rfl ?_
  rintro args ins res outs ⟨c, hc, rfl, rfl, rfl, rfl⟩
  refine ⟨by simp [Tryz.ntmps117], fun w0 V Bo mu0 => ?_⟩
  repeat' (first
    | (with_reducible first | refine W_seq ?_ | refine W_condT rfl ?_ | refine W_condF rfl ?_ | refine W_tf rfl (fun h => ?_) (fun h => ?_) | refine endQ_ret ?_ | refine endQ_normal ?_)
    | ((with_reducible first | refine hK _ ?_ | refine hK _ _ ?_); clear hK K)
    | ((with_reducible refine And.intro (encB.rows _) ?_))
    | ((first | (with_reducible first | refine ops_cons (fun K hK => ?_) | refine ops_nil ?_) | with_reducible refine callV_snap ?_ | (with_reducible first | refine slice_old ?_ | refine app_grow ?_ | refine W_reg [(0, [0]), (1, [0, 4]), (2, [2]), (3, [2])] ?_ | refine W_skip ?_ | refine end_at0 ?_) | (with_reducible refine And.intro (fun h => ?_) (fun h => ?_)) | (with_reducible refine And.intro (by omega) ?_)); (try simp only [go_sem, seval, reduceCtorEq, Tryz.ntmps117, Tryz.results117, ClBS]))
    | fail)
  · obtain rfl : c = [] := List.eq_nil_of_length_eq_zero h
    refine W_adopt 2 4 1 (by decide) (by simp [go_sem]) ?_
    refine W_ret (endQ_ret (end_at [0] ?_))
    simp [go_sem, Tryz.results117, ClBS]
  · refine W_ret (endQ_ret (end_at [1] ?_))
    have := encB.flat c
    simp [go_sem, Tryz.results117, ClBS]
    simpa [flatD] using this
def ClWS : Spec := { rel := fun args ins res outs => ∃ c : List Nat, c.length ≤ 1000000 ∧ args = [.d (.sl (c.map encU))] ∧ ins = [] ∧ res = .row 0 1 0 c.length ∧ outs = [.rows 29 1 (c.map encU)] }
theorem ClW_at (c : List Nat) (h : c.length ≤ 1000000) : ClWS.rel [.d (.sl (c.map encU))] [] (.row 0 1 0 c.length) [.rows 29 1 (c.map encU)] := ⟨c, h, rfl, rfl, rfl, rfl⟩
theorem ClW_ok : Ok Tryz.prog 118 ClWS := by
  refine fn_ok ClWS Tryz.func118 rfl rfl ?_
  rintro args ins res outs ⟨c, hc, rfl, rfl, rfl, rfl⟩
  refine ⟨by simp [Tryz.ntmps118], fun w0 V Bo mu0 => ?_⟩
  repeat' (first
    | (with_reducible first | refine W_seq ?_ | refine W_condT rfl ?_ | refine W_condF rfl ?_ | refine W_tf rfl (fun h => ?_) (fun h => ?_) | refine endQ_ret ?_ | refine endQ_normal ?_)
    | ((with_reducible first | refine hK _ ?_ | refine hK _ _ ?_); clear hK K)
    | ((with_reducible refine And.intro (encUe.rows _) ?_))
    | ((first | (with_reducible first | refine ops_cons (fun K hK => ?_) | refine ops_nil ?_) | with_reducible refine callV_snap ?_ | (with_reducible first | refine slice_old ?_ | refine app_grow ?_ | refine W_reg [(0, [0]), (1, [0, 4]), (2, [2]), (3, [2])] ?_ | refine W_skip ?_ | refine end_at0 ?_) | (with_reducible refine And.intro (fun h => ?_) (fun h => ?_)) | (with_reducible refine And.intro (by omega) ?_)); (try simp only [go_sem, seval, reduceCtorEq, Tryz.ntmps118, Tryz.results118, ClWS]))
    | fail)
  · obtain rfl : c = [] := List.eq_nil_of_length_eq_zero h
    refine W_adopt 2 29 1 (by decide) (by simp [go_sem]) ?_
    refine W_ret (endQ_ret (end_at [0] ?_))
    simp [go_sem, Tryz.results118, ClWS]
  · refine W_ret (endQ_ret (end_at [1] ?_))
    have := encUe.flat c
    simp [go_sem, Tryz.results118, ClWS]
    simpa [flatD] using this

/-- cells in order, each once -/
def Srt (cs : List Cl) : Prop := cs.Pairwise Bef
theorem fIdx_none {k : K3} {l : List Me} (h : ∀ x ∈ l, ck3 x.1 ≠ k) : fIdx k l = none := by
  unfold fIdx
  rw [List.findIdx?_eq_none_iff]
  intro x hx
  simpa using h x hx
theorem bef_ne {a b : Cl} (h : Bef a b) : ck3 a ≠ ck3 b := by
  obtain ⟨p, g, w, v⟩ := a
  obtain ⟨p', g', w', v'⟩ := b
  simp only [ck3, ne_eq, Prod.mk.injEq, not_and]
  unfold Bef at h
  simp only at h
  omega
theorem open_step {cs : List Cl} (hs : Srt cs) (k : Nat) (hk : k < cs.length) : mput ((cs.take k).zipIdx) k cs[k] = ((cs.take (k + 1)).zipIdx, k + 1) := by
  unfold mput
  rw [fIdx_none]
  · simp only
    rw [List.take_succ_eq_append_getElem hk, List.zipIdx_append]
    simp [Nat.min_eq_left (Nat.le_of_lt hk)]
  · rintro ⟨c, i⟩ hx
    obtain ⟨h1, h2⟩ := List.mem_zipIdx' hx
    simp only [List.length_take] at h1
    rw [h2, List.getElem_take]
    exact bef_ne (List.pairwise_iff_getElem.1 hs i k (by omega) hk (by omega))
abbrev mmA (a b c : Nat) (al : List Bool) (mp : List Nat) : AV := .agg [.row a 1 0 al.length, .row b 1 0 mp.length, .mp c]
def openS : Spec := { rel := fun args ins res outs => ∃ (al : List Bool) (mp : List Nat) (cs : List Cl), al.length ≤ 1000000 ∧ mp.length ≤ 1000000 ∧ cs.length ≤ 1000000 ∧ Srt cs ∧ args = [fm al mp cs] ∧ ins = [] ∧ res = mmA 0 1 2 al mp ∧ outs = [.rows 4 1 (al.map encDB), .rows 29 1 (mp.map encU), mpO cs.zipIdx cs.length] }
theorem open_at (al : List Bool) (mp : List Nat) (cs : List Cl) (h1 : al.length ≤ 1000000) (h2 : mp.length ≤ 1000000) (h3 : cs.length ≤ 1000000) (h4 : Srt cs) : openS.rel [fm al mp cs] [] (mmA 0 1 2 al mp) [.rows 4 1 (al.map encDB), .rows 29 1 (mp.map encU), mpO cs.zipIdx cs.length] := ⟨al, mp, cs, h1, h2, h3, h4, rfl, rfl, rfl, rfl⟩
set_option maxHeartbeats 2000000 in
theorem open_ok : Ok Tryz.prog 106 openS := by
  refine fn_ok openS Tryz.func106 rfl rfl ?_
  rintro args ins res outs ⟨al, mp, cs, h1, h2, h3, h4, rfl, rfl, rfl, rfl⟩
  refine ⟨by simp [Tryz.ntmps106], fun w0 V Bo mu0 => ?_⟩
  repeat' (first
    | (with_reducible first | refine W_seq ?_ | refine W_condT rfl ?_ | refine W_condF rfl ?_ | refine W_tf rfl (fun h => ?_) (fun h => ?_) | refine W_block ?_ | refine endQ_ret ?_ | refine endQ_normal ?_)
    | ((with_reducible first | refine hK _ ?_ | refine hK _ _ ?_); clear hK K)
    | ((refine ext_mmake (m := cs.length) rfl ?_ ?_ ?_) <;> simp only [go_sem, seval, reduceCtorEq])
    | ((first | (with_reducible first | refine ops_cons (fun K hK => ?_) | refine opsd_cons (fun K hK => ?_) | refine ops_nil ?_ | refine fit_i64 (by omega) ?_ | refine fit_any ?_) | ((with_reducible refine opsd_nil ?_); refine And.intro (by kernel_rfl) ?_) | with_reducible refine callV_snap ?_ | ((with_reducible refine call_go ClBS ClB_ok ?_); refine ⟨(by first | exact alOk_nil _ | exact alOk_f rfl), _, _, ClB_at al h1, ?_⟩) | ((with_reducible refine call_go ClWS ClW_ok ?_); refine ⟨(by first | exact alOk_nil _ | exact alOk_f rfl), _, _, ClW_at mp h2, ?_⟩) | (with_reducible first | refine idx_map (by omega) ?_ | refine W_reg lv106FlO ?_ | refine W_drw lv106FlO (by kernel_rfl) ?_ | refine W_skip ?_ | refine W_exit ?_ | refine end_at0 ?_) | (with_reducible refine And.intro (fun h => ?_) (fun h => ?_)) | (with_reducible refine And.intro (by omega) ?_)); (try simp only [go_sem, seval, reduceCtorEq, lv106FlO, Tryz.ntmps106, Tryz.results106, openS]))
    | fail)
  refine W_loop (fun k : Nat => ⟨[(2, .ptr 1 0), (3, .ptr 5 0), (18, .d (.sl (cs.map encCl))), (19, iv cs.length), (20, iv k)], [some (.box 28 [.d (.sl (al.map encDB)), .d (.sl (mp.map encU)), .d (.sl (cs.map encCl))]), some (.box 147 [.nil, .nil, .any]), some (.rows 4 1 (al.map encDB)), some (.rows 29 1 (mp.map encU)), some (mpO (cs.take k).zipIdx k), some (.box 147 [.row 2 1 0 al.length, .row 3 1 0 mp.length, .mp 4])]⟩) (fun k => k ≤ cs.length) (fun k => cs.length - k) 0 (Nat.zero_le _) [0, 1, 2, 3, 4, 5] ?_ ?_
  · simp [go_sem]
  intro k hk
  by_cases hlt : k < cs.length
  · have hki : (k : Int) < cs.length := by omega
    have hst := open_step h4 k hlt
    generalize hg : (cs.take (k + 1)).zipIdx = L' at hst
    generalize (cs.take k).zipIdx = L at hst ⊢
    obtain ⟨⟨cp, cg, cw, cv⟩, hc⟩ : ∃ c, cs[k] = c := ⟨_, rfl⟩
    rw [hc] at hst
    have e0 : encCl cs[k] = [.int .i64 cp, .int .i64 cg, .int .i64 cw, .int .u64 (cv : Int)] := by rw [hc]; rfl
    repeat' (first
      | (with_reducible first | refine W_seq ?_ | refine W_condT rfl ?_ | refine W_condF rfl ?_ | refine W_tf rfl (fun h => ?_) (fun h => ?_) | refine W_block ?_ | refine endQ_ret ?_ | refine endQ_normal ?_)
      | ((with_reducible first | refine hK _ ?_ | refine hK _ _ ?_); clear hK K)
      | ((refine ext_mput (cp, cg, cw, cv) rfl rfl rfl rfl rfl rfl ?_); simp only [go_sem, seval, reduceCtorEq, hst])
      | ((first | (with_reducible first | refine ops_cons (fun K hK => ?_) | refine opsd_cons (fun K hK => ?_) | refine ops_nil ?_ | refine fit_i64 (by omega) ?_ | refine fit_any ?_) | ((with_reducible refine opsd_nil ?_); refine And.intro (by kernel_rfl) ?_) | with_reducible refine callV_snap ?_ | ((with_reducible refine call_go keyOfS keyOf_ok ?_); refine ⟨(by first | exact alOk_nil _ | exact alOk_f rfl), _, _, keyOf_at (cp, cg, cw, cv), ?_⟩) | (with_reducible first | refine idx_map (by omega) ?_ | refine W_reg lv106FlO ?_ | refine W_drw lv106FlO (by kernel_rfl) ?_ | refine W_skip ?_ | refine W_exit ?_ | refine W_ret ?_ | refine end_at0 ?_) | (with_reducible refine And.intro (fun h => ?_) (fun h => ?_)) | (with_reducible refine And.intro (by omega) ?_)); (try simp only [go_sem, seval, reduceCtorEq, hki, e0, lv106FlO, Tryz.ntmps106, Tryz.results106, openS]))
      | fail)
    refine ⟨k + 1, [0, 1, 2, 3, 4, 5], by omega, by omega, ?_⟩
    simp [go_sem, hg]
  · have hki : ¬ (k : Int) < cs.length := by omega
    obtain rfl : k = cs.length := by omega
    repeat' (first
      | (with_reducible first | refine W_seq ?_ | refine W_condT rfl ?_ | refine W_condF rfl ?_ | refine W_tf rfl (fun h => ?_) (fun h => ?_) | refine W_block ?_ | refine endQ_ret ?_ | refine endQ_normal ?_)
      | ((with_reducible first | refine hK _ ?_ | refine hK _ _ ?_); clear hK K)
      | ((first | (with_reducible first | refine ops_cons (fun K hK => ?_) | refine opsd_cons (fun K hK => ?_) | refine ops_nil ?_ | refine fit_i64 (by omega) ?_ | refine fit_any ?_) | ((with_reducible refine opsd_nil ?_); refine And.intro (by kernel_rfl) ?_) | with_reducible refine callV_snap ?_ | (with_reducible first | refine idx_map (by omega) ?_ | refine W_reg lv106FlO ?_ | refine W_drw lv106FlO (by kernel_rfl) ?_ | refine W_skip ?_ | refine W_exit ?_ | refine end_at0 ?_) | (with_reducible refine And.intro (fun h => ?_) (fun h => ?_)) | (with_reducible refine And.intro (by omega) ?_)); (try simp only [go_sem, seval, reduceCtorEq, hki, List.take_length, lv106FlO, Tryz.ntmps106, Tryz.results106, openS]))
      | fail)
    refine W_ret (endQ_ret (end_at [2, 3, 4] ?_))
    have f1 := encB.flat al
    have f2 := encUe.flat mp
    simp [go_sem, Tryz.results106, openS]
    exact ⟨by simpa [flatD] using f1, by simpa [flatD] using f2⟩
end Go.Proofs.YtnclclpfmldocaaGreat
