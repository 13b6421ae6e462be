/- Traces made of numbers: made; stories that are the same. -/
import Derived.Test.YtnclclpfmldocaaGreatMdK
import Derived.Test.YtnclclpfmldocaaGreatMdL
namespace Go.Proofs.YtnclclpfmldocaaGreat
open Go.RowKit
set_option maxRecDepth 100000
set_option linter.unusedSimpArgs false
set_option linter.unusedVariables false

abbrev lv8MdM : List (Nat × List Nat) := [(0, [0, 1, 2, 3, 9]), (1, [0, 1, 2, 3, 9, 11]), (2, [0, 1, 2, 3, 9, 11, 12]), (3, [0, 1, 2, 3, 9, 11, 12, 13]), (4, [0, 1, 2, 3, 9, 11, 12, 13, 26]), (5, [0, 1, 2, 3, 9, 11, 12, 13]), (6, [0, 1, 2, 3, 9, 11, 12, 13, 14]), (7, [0, 1, 2, 3, 9, 11, 12, 13, 14, 15, 16]), (8, [0, 1, 2, 3, 9, 11, 12, 13, 14, 15, 44]), (9, [0, 1, 2, 3, 9, 11, 12, 13, 14, 15, 47]), (10, [8, 9, 10]), (11, [0, 1, 2, 3, 9, 11, 12, 13]), (12, [8, 9, 10])]
theorem tak_none {s : Sy} {x : Oc} (hv : Vs s) (h : tak s x = none) : ∃ e, e ≠ 0 ∧ nxtF s x = (syZ, e) := by
  unfold tak at h
  by_cases h0 : ocE x = 0
  · rw [if_pos h0] at h; exact ⟨9, by decide, nxt_no (vs_sye hv) h0 h⟩
  · exact ⟨ocE x, h0, nxt_oc (vs_sye hv) h0⟩
theorem tak_some {s t : Sy} {x : Oc} (hv : Vs s) (h : tak s x = some t) : nxtF s x = (t, 0) ∧ Vs t := by
  unfold tak at h
  by_cases h0 : ocE x = 0
  · rw [if_pos h0] at h; exact ⟨nxt_so (vs_sye hv) h0 h, nx_vs hv h0 h⟩
  · rw [if_neg h0] at h; cases h
/-- a valid story's sizes -/
theorem vs_len {s : Sy} (h : Vs s) : U64 s.m.2.1 ∧ s.m.1.length ≤ 1000000 ∧ s.m.2.1.length ≤ 1000000 ∧ s.m.2.2.length ≤ 1000000 ∧ s.W.length ≤ 1000000 ∧ s.L ≤ mxT := by
  have l1 := vl_len h.v
  have l2 := h.v.la
  have l3 := h.v.lm
  have l4 := h.lw
  exact ⟨h.v.u, by omega, by omega, by omega, by omega, h.lt⟩
theorem madS1_none {b : Nat} {f : Bool} {a : List Oc × Sy} {n : Int} (h : tak a.2 (outc a.2 (numM n) b f) = none) : madS1 b f a n = a := by unfold madS1; rw [h]
theorem madS1_some {b : Nat} {f : Bool} {a : List Oc × Sy} {n : Int} {t : Sy} (h : tak a.2 (outc a.2 (numM n) b f) = some t) : madS1 b f a n = (a.1 ++ [outc a.2 (numM n) b f], t) := by unfold madS1; rw [h]
def madeS : Spec := { al := true, rel := fun args ins res outs => ∃ (l : List Int) (m b : Nat) (f : Bool), m ≤ 60 ∧ b ≤ 4 ∧ args = [dI l, iv (m : Int), iv (b : Int), bv f] ∧ ins = [] ∧ res = .tup [.row 0 7 0 (madO b f (l.take m)).1.length, syA (madO b f (l.take m)).2, bv true] ∧ outs = [.rows 36 7 ((madO b f (l.take m)).1.map encOc)] }
set_option maxHeartbeats 4000000 in
theorem made_ok : Ok Tryz.prog 8 madeS := by
  refine fn_ok madeS Tryz.func8 rfl rfl ?_
  rintro args ins res outs ⟨l, m, b, f, hm, hb, rfl, rfl, rfl, rfl⟩
  refine ⟨by simp [Tryz.ntmps8], fun w0 V Bo mu0 => ?_⟩
  repeat' (first
    | (with_reducible first | refine W_seq ?_ | refine W_condT rfl ?_ | refine W_condF rfl ?_ | refine W_tf rfl (fun h => ?_) (fun h => ?_) | refine W_block ?_ | refine endQ_ret ?_ | refine endQ_normal ?_)
    | ((with_reducible first | refine hK _ ?_ | refine hK _ _ ?_); clear hK K)
    | ((first | (with_reducible first | refine ops_cons (fun K hK => ?_) | refine opsd_cons (fun K hK => ?_) | refine ops_nil ?_ | refine fit_i64 (by omega) ?_ | refine fit_any ?_) | ((with_reducible refine opsd_nil ?_); refine And.intro (by kernel_rfl) ?_) | with_reducible refine callV_snap ?_ | ((with_reducible refine call_go MNewFS MNewF_ok ?_); refine ⟨(by first | exact alOk_nil _ | exact alOk_f rfl), _, _, MNewF_at , ?_⟩) | (with_reducible first | refine slice_old ?_ | refine app_grow ?_ | refine idx_map (by omega) ?_ | refine W_reg lv8MdM ?_ | refine W_drw lv8MdM (by kernel_rfl) ?_ | refine W_skip ?_ | refine W_exit ?_ | refine W_ret ?_ | refine end_at0 ?_) | (with_reducible refine And.intro (fun h => ?_) (fun h => ?_)) | (with_reducible refine And.intro (by omega) ?_)); (try simp only [go_sem, seval, reduceCtorEq, lv8MdM, Tryz.ntmps8, Tryz.results8, madeS]))
    | fail)
  refine W_adopt 12 36 7 (by decide) (by simp [go_sem]) ?_
  refine W_loop (fun i : Nat => ⟨[(0, dI l), (1, iv (m : Int)), (2, iv (b : Int)), (3, bv f), (9, .ptr 0 0), (11, .ptr 1 0), (12, .row 2 7 0 (madO b f (l.take i)).1.length), (13, iv (i : Int))], [some (.box 31 [.nil, .nil, .nil, .nil, wv 0]), some (.box 31 [.d (.sl ((madO b f (l.take i)).2.m.1.map encDB)), .d (.sl ((madO b f (l.take i)).2.m.2.1.map encU)), .d (.sl ((madO b f (l.take i)).2.m.2.2.map encCl)), .d (.sl ((madO b f (l.take i)).2.W.map encU)), wv ((madO b f (l.take i)).2.L : Int)]), some (.rows 36 7 ((madO b f (l.take i)).1.map encOc))]⟩) (fun i => i ≤ l.length ∧ i ≤ m) (fun i => m - i) 0 ⟨Nat.zero_le _, Nat.zero_le _⟩ [0, 1, 2] ?_ ?_
  · simp [go_sem, madO, sy0]
  rintro i ⟨hi, hi4⟩
  obtain ⟨hM, hMl, _⟩ := mk_mad b f (l.take i)
  have hM60 : (madO b f (l.take i)).1.length ≤ 60 := by rw [List.length_take] at hMl; omega
  obtain ⟨v1, v2, v3, v4, v5, v6⟩ := vs_len hM.v
  by_cases hlt : i < l.length ∧ i < m
  · obtain ⟨hlt, h4⟩ := hlt
    have hki : (i : Int) < l.length := by omega
    have h4i : (i : Int) < (m : Int) := by omega
    have hs := madO_succ (b := b) (f := f) hlt
    obtain ⟨n, hn⟩ : ∃ x, l[i] = x := ⟨_, rfl⟩
    have e0 : encDI l[i] = [.int .i64 n] := by rw [hn]; rfl
    rw [hn] at hs
    have O0 := outc_at (madO b f (l.take i)).2 n b f v5 v6 hb
    have hno := madS1_none (b := b) (f := f) (a := madO b f (l.take i)) (n := n)
    have hso := fun t => madS1_some (b := b) (f := f) (a := madO b f (l.take i)) (n := n) (t := t)
    have X0 := NxtF_at (madO b f (l.take i)).2 (outc (madO b f (l.take i)).2 (numM n) b f) v1 v2 v3 v4 v5
    have hvs := hM.v
    generalize outc (madO b f (l.take i)).2 (numM n) b f = x at *
    cases ht : tak (madO b f (l.take i)).2 x with
    | none =>
      obtain ⟨e, he, hx⟩ := tak_none hvs ht
      have hs' := hs.trans (hno ht)
      rw [hx] at X0
      generalize madO b f (l.take i) = A at *
      have outc_at : outcS.rel [syA A.2, iv n, iv (b : Int), bv f] [] (ocA x) [] := O0
      have NxtF_at : NxtFS.rel [syA A.2, ocA x] [] (.tup [syA syZ, iv e]) [] := X0
      repeat' (first
        | (with_reducible first | refine W_seq ?_ | refine W_condT rfl ?_ | refine W_condF rfl ?_ | refine W_tf rfl (fun h => ?_) (fun h => ?_) | refine W_block ?_ | refine endQ_ret ?_ | refine endQ_normal ?_)
        | ((with_reducible first | refine hK _ ?_ | refine hK _ _ ?_); clear hK K)
        | ((first | (with_reducible first | refine ops_cons (fun K hK => ?_) | refine opsd_cons (fun K hK => ?_) | refine ops_nil ?_ | refine fit_i64 (by omega) ?_ | refine fit_any ?_) | ((with_reducible refine opsd_nil ?_); refine And.intro (by kernel_rfl) ?_) | with_reducible refine callV_snap ?_ | ((with_reducible refine call_go outcS outc_ok ?_); refine ⟨(by first | exact alOk_nil _ | exact alOk_f rfl), _, _, outc_at , ?_⟩) | ((with_reducible refine call_go NxtFS NxtF_ok ?_); refine ⟨(by first | exact alOk_nil _ | exact alOk_f rfl), _, _, NxtF_at , ?_⟩) | (with_reducible first | refine slice_old ?_ | refine app_grow ?_ | refine idx_map (by omega) ?_ | refine W_reg lv8MdM ?_ | refine W_drw lv8MdM (by kernel_rfl) ?_ | refine W_skip ?_ | refine W_exit ?_ | refine W_ret ?_ | refine end_at0 ?_) | (with_reducible refine And.intro (fun h => ?_) (fun h => ?_)) | (with_reducible refine And.intro (by omega) ?_)); (try simp only [go_sem, seval, reduceCtorEq, hki, h4i, e0, he, lv8MdM, Tryz.ntmps8, Tryz.results8, madeS]))
        | fail)
      refine ⟨i + 1, [0, 1, 2], ⟨by omega, by omega⟩, by omega, ?_⟩
      simp [go_sem, hs']
    | some t =>
      obtain ⟨hx, hv'⟩ := tak_some hvs ht
      have hs' := hs.trans (hso t ht)
      rw [hx] at X0
      obtain ⟨u1, u2, u3, u4, u5, u6⟩ := vs_len hv'
      have Cky_at := Cky_at t u1 u2 u3 u4 u5 (vs_sye hv')
      generalize madO b f (l.take i) = A at *
      have outc_at : outcS.rel [syA A.2, iv n, iv (b : Int), bv f] [] (ocA x) [] := O0
      have NxtF_at : NxtFS.rel [syA A.2, ocA x] [] (.tup [syA t, iv 0]) [] := X0
      repeat' (first
        | (with_reducible first | refine W_seq ?_ | refine W_condT rfl ?_ | refine W_condF rfl ?_ | refine W_tf rfl (fun h => ?_) (fun h => ?_) | refine W_block ?_ | refine endQ_ret ?_ | refine endQ_normal ?_)
        | ((with_reducible first | refine hK _ ?_ | refine hK _ _ ?_); clear hK K)
        | ((first | (with_reducible first | refine ops_cons (fun K hK => ?_) | refine opsd_cons (fun K hK => ?_) | refine ops_nil ?_ | refine fit_i64 (by omega) ?_ | refine fit_any ?_) | ((with_reducible refine opsd_nil ?_); refine And.intro (by kernel_rfl) ?_) | with_reducible refine callV_snap ?_ | ((with_reducible refine call_go outcS outc_ok ?_); refine ⟨(by first | exact alOk_nil _ | exact alOk_f rfl), _, _, outc_at , ?_⟩) | ((with_reducible refine call_go NxtFS NxtF_ok ?_); refine ⟨(by first | exact alOk_nil _ | exact alOk_f rfl), _, _, NxtF_at , ?_⟩) | ((with_reducible refine call_go CkyS Cky_ok ?_); refine ⟨(by first | exact alOk_nil _ | exact alOk_f rfl), _, _, Cky_at , ?_⟩) | (with_reducible first | refine slice_old ?_ | refine app_grow ?_ | refine idx_map (by omega) ?_ | refine W_reg lv8MdM ?_ | refine W_drw lv8MdM (by kernel_rfl) ?_ | refine W_skip ?_ | refine W_exit ?_ | refine W_ret ?_ | refine end_at0 ?_) | (with_reducible refine And.intro (fun h => ?_) (fun h => ?_)) | (with_reducible refine And.intro (by omega) ?_)); (try simp only [go_sem, seval, reduceCtorEq, hki, h4i, e0, lv8MdM, Tryz.ntmps8, Tryz.results8, madeS]))
        | fail)
      refine ⟨i + 1, [0, 1, 6], ⟨by omega, by omega⟩, by omega, ?_⟩
      simp [go_sem, hs', encOc]
  · have hE : madO b f (l.take m) = madO b f (l.take i) := by
      by_cases hm : i = m
      · rw [hm]
      · rw [List.take_of_length_le (show l.length ≤ m by omega), List.take_of_length_le (show l.length ≤ i by omega)]
    rw [hE]
    have Cky_at := Cky_at (madO b f (l.take i)).2 v1 v2 v3 v4 v5 (vs_sye hM.v)
    generalize madO b f (l.take i) = A at *
    by_cases hlt' : i < l.length
    · have hki : (i : Int) < l.length := by omega
      have h4i : ¬ (i : Int) < (m : Int) := by omega
      repeat' (first
        | (with_reducible first | refine W_seq ?_ | refine W_condT rfl ?_ | refine W_condF rfl ?_ | refine W_tf rfl (fun h => ?_) (fun h => ?_) | refine W_block ?_ | refine endQ_ret ?_ | refine endQ_normal ?_)
        | ((with_reducible first | refine hK _ ?_ | refine hK _ _ ?_); clear hK K)
        | ((first | (with_reducible first | refine ops_cons (fun K hK => ?_) | refine opsd_cons (fun K hK => ?_) | refine ops_nil ?_ | refine fit_i64 (by omega) ?_ | refine fit_any ?_) | ((with_reducible refine opsd_nil ?_); refine And.intro (by kernel_rfl) ?_) | with_reducible refine callV_snap ?_ | ((with_reducible refine call_go CkyS Cky_ok ?_); refine ⟨(by first | exact alOk_nil _ | exact alOk_f rfl), _, _, Cky_at , ?_⟩) | (with_reducible first | refine slice_old ?_ | refine app_grow ?_ | refine idx_map (by omega) ?_ | refine W_reg lv8MdM ?_ | refine W_drw lv8MdM (by kernel_rfl) ?_ | refine W_skip ?_ | refine W_exit ?_ | refine end_at0 ?_) | (with_reducible refine And.intro (fun h => ?_) (fun h => ?_)) | (with_reducible refine And.intro (by omega) ?_)); (try simp only [go_sem, seval, reduceCtorEq, hki, h4i, lv8MdM, Tryz.ntmps8, Tryz.results8, madeS]))
        | fail)
      refine W_ret (endQ_ret (end_at [2] ?_))
      simp [go_sem, Tryz.results8, madeS]
    · have hki : ¬ (i : Int) < l.length := by omega
      repeat' (first
        | (with_reducible first | refine W_seq ?_ | refine W_condT rfl ?_ | refine W_condF rfl ?_ | refine W_tf rfl (fun h => ?_) (fun h => ?_) | refine W_block ?_ | refine endQ_ret ?_ | refine endQ_normal ?_)
        | ((with_reducible first | refine hK _ ?_ | refine hK _ _ ?_); clear hK K)
        | ((first | (with_reducible first | refine ops_cons (fun K hK => ?_) | refine opsd_cons (fun K hK => ?_) | refine ops_nil ?_ | refine fit_i64 (by omega) ?_ | refine fit_any ?_) | ((with_reducible refine opsd_nil ?_); refine And.intro (by kernel_rfl) ?_) | with_reducible refine callV_snap ?_ | ((with_reducible refine call_go CkyS Cky_ok ?_); refine ⟨(by first | exact alOk_nil _ | exact alOk_f rfl), _, _, Cky_at , ?_⟩) | (with_reducible first | refine slice_old ?_ | refine app_grow ?_ | refine idx_map (by omega) ?_ | refine W_reg lv8MdM ?_ | refine W_drw lv8MdM (by kernel_rfl) ?_ | refine W_skip ?_ | refine W_exit ?_ | refine end_at0 ?_) | (with_reducible refine And.intro (fun h => ?_) (fun h => ?_)) | (with_reducible refine And.intro (by omega) ?_)); (try simp only [go_sem, seval, reduceCtorEq, hki, lv8MdM, Tryz.ntmps8, Tryz.results8, madeS]))
        | fail)
      refine W_ret (endQ_ret (end_at [2] ?_))
      simp [go_sem, Tryz.results8, madeS]
def madeFS : Spec := { al := true, rel := fun args ins res outs => ∃ (l : List Int) (m b : Nat) (f : Bool), m ≤ 60 ∧ b ≤ 4 ∧ args = [dI l, iv (m : Int), iv (b : Int), bv f] ∧ ins = [] ∧ res = .tup [ocL (madO b f (l.take m)).1, syA (madO b f (l.take m)).2, bv true] ∧ outs = [] }
theorem madeF_at (l : List Int) (m b : Nat) (f : Bool) (h2 : m ≤ 60) (h3 : b ≤ 4) : madeFS.rel [dI l, iv (m : Int), iv (b : Int), bv f] [] (.tup [ocL (madO b f (l.take m)).1, syA (madO b f (l.take m)).2, bv true]) [] := ⟨l, m, b, f, h2, h3, rfl, rfl, rfl, rfl⟩
theorem madeF_ok : Ok Tryz.prog 8 madeFS := by
  refine ok_frz made_ok madeFS rfl ?_
  rintro args ins res outs ⟨l, m, b, f, h2, h3, rfl, rfl, rfl, rfl⟩
  refine ⟨rfl, rfl, _, _, ⟨l, m, b, f, h2, h3, rfl, rfl, rfl, rfl⟩, ?_⟩
  simp [frz, frzA, frzAL, frzL, frz1, List.take_of_length_le]
theorem mk_tell {b : Nat} {f : Bool} {a : List Oc × Sy} (h : Mk b f a) (hl : a.1.length ≤ 5000) : trE a.1 = (0, 0) ∧ tlN a.1 = a.1.length ∧ afE a.1 = 0 ∧ afT a.1 = a.2 := by
  have e1 := trE_zero hl h.o
  have e2 := wk_run h.r
  have e3 : tlN a.1 = a.1.length := by unfold tlN; rw [e1, e2]; rfl
  have e4 : afE a.1 = 0 := by unfold afE; rw [e1, e3, if_neg (by omega)]
  refine ⟨e1, e3, e4, ?_⟩
  unfold afT tlS
  rw [if_pos e4, e1, e2]
  rfl
def samS : Spec := { rel := fun args ins res outs => ∃ s : Sy, s.m.1.length ≤ 1000000 ∧ s.m.2.1.length ≤ 1000000 ∧ s.m.2.2.length ≤ 1000000 ∧ s.W.length ≤ 1000000 ∧ args = [syA s, syA s] ∧ ins = [] ∧ res = bv true ∧ outs = [] }
theorem sam_at (s : Sy) (h1 : s.m.1.length ≤ 1000000) (h2 : s.m.2.1.length ≤ 1000000) (h3 : s.m.2.2.length ≤ 1000000) (h4 : s.W.length ≤ 1000000) : samS.rel [syA s, syA s] [] (bv true) [] := ⟨s, h1, h2, h3, h4, rfl, rfl, rfl, rfl⟩
theorem sam_ok : Ok Tryz.prog 17 samS := by
  refine fn_ok samS Tryz.func17 rfl rfl ?_
  rintro args ins res outs ⟨s, h1, h2, h3, h4, rfl, rfl, rfl, rfl⟩
  refine ⟨by simp [Tryz.ntmps17], fun w0 V Bo mu0 => ?_⟩
  have F0 := Smf_at s.m.1 s.m.1 s.m.2.1 s.m.2.1 s.m.2.2 s.m.2.2 h1 h1 h2 h2 h3 h3
  rw [decide_eq_true (⟨rfl, rfl, rfl⟩ : s.m.1 = s.m.1 ∧ s.m.2.1 = s.m.2.1 ∧ s.m.2.2 = s.m.2.2)] at F0
  have W0 := Smw_at s.W s.W h4 h4
  rw [decide_eq_true (rfl : s.W = s.W)] at W0
  have Smf_at : SmfS.rel [fm s.m.1 s.m.2.1 s.m.2.2, fm s.m.1 s.m.2.1 s.m.2.2] [] (bv true) [] := F0
  have Smw_at : SmwS.rel [.d (.sl (s.W.map encU)), .d (.sl (s.W.map encU))] [] (bv true) [] := W0
  repeat' (first
    | (with_reducible first | refine W_seq ?_ | refine endQ_ret ?_ | refine endQ_normal ?_)
    | ((with_reducible first | refine hK _ ?_ | refine hK _ _ ?_); clear hK K)
    | ((first | (with_reducible first | refine ops_cons (fun K hK => ?_) | refine ops_nil ?_) | with_reducible refine callV_snap ?_ | ((with_reducible refine call_go SmfS Smf_ok ?_); refine ⟨(by first | exact alOk_nil _ | exact alOk_f rfl), _, _, Smf_at , ?_⟩) | ((with_reducible refine call_go SmwS Smw_ok ?_); refine ⟨(by first | exact alOk_nil _ | exact alOk_f rfl), _, _, Smw_at , ?_⟩) | (with_reducible first | refine W_reg [(0, [2, 3]), (1, [4])] ?_ | refine W_ret ?_ | refine end_at0 ?_) | (with_reducible refine And.intro (fun h => ?_) (fun h => ?_)) | (with_reducible refine And.intro (by omega) ?_)); (try simp only [go_sem, seval, reduceCtorEq, Tryz.ntmps17, Tryz.results17, samS]))
    | fail)
end Go.Proofs.YtnclclpfmldocaaGreat
