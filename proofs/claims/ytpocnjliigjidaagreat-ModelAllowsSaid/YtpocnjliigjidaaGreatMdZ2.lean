import Derived.Test.YtpocnjliigjidaaGreatMdDE
import Derived.Test.YtpocnjliigjidaaGreatFlAI
import Derived.Test.YtpocnjliigjidaaGreatMdD
/- The validity of outcomes, the reference's side: unused fields, one outcome, a trace. -/
namespace Go.Proofs.YtpocnjliigjidaaGreat
open Go.RowKit
set_option maxRecDepth 100000
set_option linter.unusedSimpArgs false
set_option linter.unusedVariables false
abbrev lv33MdDD : List (Nat × List Nat) := [(0, [0]), (1, [0, 8]), (2, [2, 3]), (3, [0, 4]), (4, [0, 4, 12]), (5, [0, 4]), (6, [0, 4, 5]), (7, [0, 4, 5, 21]), (8, [2, 3]), (9, [2, 3])]
abbrev lv55MdDD : List (Nat × List Nat) := [(0, [1]), (1, [1, 3]), (2, [2]), (3, [1, 8]), (4, [2]), (5, [12]), (6, [2]), (7, [2])]
theorem rngO_ok : Ok Tryz.prog 91 rngOS := by
  refine ⟨rnA_ok.1, fun args ins res outs hr => ?_⟩
  obtain ⟨x, h1, h2, g1, g2, g3, g4⟩ := hr
  have hm : x.k ≤ 4 ∨ (5 ≤ x.k ∧ x.k ≤ 8) ∨ 9 ≤ x.k := by omega
  rcases hm with h | h | h
  · exact rnA_ok.2 _ _ _ _ ⟨x, h1, h, g1, g2, g3, g4⟩
  · exact rnB_ok.2 _ _ _ _ ⟨x, h.1, h.2, g1, g2, g3, g4⟩
  · exact rnC_ok.2 _ _ _ _ ⟨x, h, h2, g1, g2, g3, g4⟩
def oneOS : Spec := { rel := fun args ins res outs => ∃ x : Oc, args = [ocA x] ∧ ins = [] ∧ res = iv (ocE x) ∧ outs = [] }
theorem oneO_at (x : Oc) {e : Int} (h : ocE x = e) : oneOS.rel [ocA x] [] (iv e) [] := ⟨x, rfl, rfl, by rw [h], rfl⟩
set_option maxHeartbeats 2000000 in
theorem oneO_ok : Ok Tryz.prog 55 oneOS := by
  refine fn_ok oneOS Tryz.func55 rfl rfl ?_
  rintro args ins res outs ⟨x, rfl, rfl, rfl, rfl⟩
  refine ⟨by simp [Tryz.ntmps55], fun w0 V Bo mu0 => ?_⟩
  have us := Tryz.underlying9
  by_cases hk : x.k < 1 ∨ 11 < x.k
  · rw [show ocE x = 16 from if_pos hk]
    have nmR_at := nmR_at x.k (nmN_nil hk)
    have hee : ((sY []).toList == (ByteArray.mk #[]).toList) = true := by rw [sB_toList]; decide
    repeat' (first | refine sA ?_ | with_reducible refine W_tf rfl (fun h => ?_) (fun h => ?_) | ((with_reducible first | refine hK _ ?_ | refine hK _ _ ?_); clear hK K) | ((first | refine sB ?_ | (with_reducible first | refine ops_cons (fun K hK => ?_) | refine W_reg lv55MdDD ?_) | with_reducible refine callV_snap ?_ | ((with_reducible refine call_go nmRS nmR_ok ?_); refine ⟨alk, _, _, nmR_at , ?_⟩) | with_reducible refine And.intro (fun h => ?_) (fun h => ?_) | with_reducible refine And.intro (by omega) ?_); (try simp only [go_sem, seval, reduceCtorEq, us, hee, lv55MdDD, Tryz.ntmps55, Tryz.results55, oneOS])) | fail)
    all_goals trace_state
  have hne := nmN_ne hk
  have nmR_at := nmR_at x.k rfl
  generalize nmN x.k = nm at *
  obtain ⟨e1, e2, e3, e4, e5⟩ := ocE_of hk
  have R0 := rngO_at x (by omega) (by omega) rfl
  have U0 := unuO_at x (by omega) (by omega) rfl
  cases hr : rngB x with
  | false =>
    have hE : ocE x = 2 := by
      unfold rngB at hr
      by_cases h1 : x.p < 1
      · exact e1 h1
      · by_cases h2 : 8 < x.p
        · exact e2 h2
        · rw [decide_eq_true (by omega)] at hr
          exact e3 (by simpa using hr)
    rw [hE]
    rw [hr] at R0
    have rngO_at : rngOS.rel [ocA x] [] (bv false) [] := R0
    repeat' (first | refine sA ?_ | with_reducible refine W_tf rfl (fun h => ?_) (fun h => ?_) | ((with_reducible first | refine hK _ ?_ | refine hK _ _ ?_); clear hK K) | ((first | refine sB ?_ | (with_reducible first | refine ops_cons (fun K hK => ?_) | refine W_reg lv55MdDD ?_) | with_reducible refine callV_snap ?_ | ((with_reducible refine call_go nmRS nmR_ok ?_); refine ⟨alk, _, _, nmR_at , ?_⟩) | ((with_reducible refine call_go rngOS rngO_ok ?_); refine ⟨alk, _, _, rngO_at , ?_⟩) | with_reducible refine And.intro (fun h => ?_) (fun h => ?_) | with_reducible refine And.intro (by omega) ?_); (try simp only [go_sem, seval, reduceCtorEq, us, hne, lv55MdDD, Tryz.ntmps55, Tryz.results55, oneOS])) | fail)
    all_goals trace_state
  | true =>
    rw [hr] at R0
    have rngO_at : rngOS.rel [ocA x] [] (bv true) [] := R0
    unfold rngB at hr
    rw [Bool.and_eq_true, decide_eq_true_eq] at hr
    cases hu : unuO x with
    | false =>
      rw [e4 (by omega) (by omega) hr.2 hu]
      rw [hu] at U0
      have unuO_at : unuOS.rel [ocA x] [] (bv false) [] := U0
      repeat' (first | refine sA ?_ | with_reducible refine W_tf rfl (fun h => ?_) (fun h => ?_) | ((with_reducible first | refine hK _ ?_ | refine hK _ _ ?_); clear hK K) | ((first | refine sB ?_ | (with_reducible first | refine ops_cons (fun K hK => ?_) | refine W_reg lv55MdDD ?_) | with_reducible refine callV_snap ?_ | ((with_reducible refine call_go nmRS nmR_ok ?_); refine ⟨alk, _, _, nmR_at , ?_⟩) | ((with_reducible refine call_go rngOS rngO_ok ?_); refine ⟨alk, _, _, rngO_at , ?_⟩) | ((with_reducible refine call_go unuOS unuO_ok ?_); refine ⟨alk, _, _, unuO_at , ?_⟩) | with_reducible refine And.intro (fun h => ?_) (fun h => ?_) | with_reducible refine And.intro (by omega) ?_); (try simp only [go_sem, seval, reduceCtorEq, us, hne, lv55MdDD, Tryz.ntmps55, Tryz.results55, oneOS])) | fail)
      all_goals trace_state
    | true =>
      rw [e5 (by omega) (by omega) hr.2 hu]
      rw [hu] at U0
      have unuO_at : unuOS.rel [ocA x] [] (bv true) [] := U0
      repeat' (first | refine sA ?_ | with_reducible refine W_tf rfl (fun h => ?_) (fun h => ?_) | ((with_reducible first | refine hK _ ?_ | refine hK _ _ ?_); clear hK K) | ((first | refine sB ?_ | (with_reducible first | refine ops_cons (fun K hK => ?_) | refine W_reg lv55MdDD ?_) | with_reducible refine callV_snap ?_ | ((with_reducible refine call_go nmRS nmR_ok ?_); refine ⟨alk, _, _, nmR_at , ?_⟩) | ((with_reducible refine call_go rngOS rngO_ok ?_); refine ⟨alk, _, _, rngO_at , ?_⟩) | ((with_reducible refine call_go unuOS unuO_ok ?_); refine ⟨alk, _, _, unuO_at , ?_⟩) | with_reducible refine And.intro (fun h => ?_) (fun h => ?_) | with_reducible refine And.intro (by omega) ?_); (try simp only [go_sem, seval, reduceCtorEq, us, hne, lv55MdDD, Tryz.ntmps55, Tryz.results55, oneOS])) | fail)
      all_goals trace_state
abbrev rTrkS : Spec := TrkS
theorem rTrk_at (l : List Oc) (h : l.length ≤ 1000000) {e : Int} {i : Nat} (he : trE l = (e, i)) : rTrkS.rel [ocL l] [] (.tup [iv e, iv (i : Int)]) [] := Trk_at l h he
theorem rTrk_ok : Ok Tryz.prog 33 rTrkS := by
  refine fn_ok TrkS Tryz.func33 rfl rfl ?_
  rintro args ins res outs ⟨l, hl, rfl, rfl, rfl, rfl⟩
  refine ⟨by simp [Tryz.ntmps33], fun w0 V Bo mu0 => ?_⟩
  unfold trE
  by_cases h5 : 5000 < (l.length : Int)
  · rw [if_pos (by omega)]
    repeat' (first | refine sA ?_ | with_reducible refine W_tf rfl (fun h => ?_) (fun h => ?_) | ((with_reducible first | refine hK _ ?_ | refine hK _ _ ?_); clear hK K) | ((first | refine sB ?_ | (with_reducible first | refine ops_cons (fun K hK => ?_) | refine W_reg lv33MdDD ?_) | with_reducible refine callV_snap ?_ | with_reducible refine And.intro (fun h => ?_) (fun h => ?_) | with_reducible refine And.intro (by omega) ?_); (try simp only [go_sem, seval, reduceCtorEq, h5, lv33MdDD, Tryz.ntmps33, Tryz.results33, TrkS])) | fail)
  rw [if_neg (by omega)]
  repeat' (first | refine sA ?_ | with_reducible refine W_tf rfl (fun h => ?_) (fun h => ?_) | ((with_reducible first | refine hK _ ?_ | refine hK _ _ ?_); clear hK K) | ((first | refine sB ?_ | (with_reducible first | refine ops_cons (fun K hK => ?_) | refine W_reg lv33MdDD ?_) | with_reducible refine callV_snap ?_ | with_reducible refine And.intro (fun h => ?_) (fun h => ?_) | with_reducible refine And.intro (by omega) ?_); (try simp only [go_sem, seval, reduceCtorEq, h5, lv33MdDD, Tryz.ntmps33, Tryz.results33, TrkS])) | fail)
  refine W_loop (fun i : Nat => ⟨[(0, ocL l), (4, iv (i : Int))], []⟩) (fun i => i ≤ l.length ∧ trF i (l.drop i) = trF 0 l) (fun i => l.length - i) 0 ⟨Nat.zero_le _, rfl⟩ [] ?_ ?_
  · simp [go_sem]
  rintro i ⟨hi, hT⟩
  by_cases hlt : i < l.length
  · have hki : (i : Int) < l.length := by omega
    rw [trF_at hlt] at hT
    obtain ⟨x, hx⟩ : ∃ x, l[i] = x := ⟨_, rfl⟩
    have e0 : encOc l[i] = [.int .i64 x.k, .int .i64 x.p, .int .i64 x.o, .int .i64 x.g, .int .i64 x.w, .int .u64 (x.t : Int), .int .u64 (x.v : Int)] := by rw [hx]; rfl
    rw [hx] at hT
    have C0 := oneO_at x rfl
    by_cases he : ocE x = 0
    · rw [if_pos he] at hT
      rw [he] at C0
      have oneO_at : oneOS.rel [ocA x] [] (iv 0) [] := C0
      repeat' (first | refine sA ?_ | with_reducible refine W_tf rfl (fun h => ?_) (fun h => ?_) | ((with_reducible first | refine hK _ ?_ | refine hK _ _ ?_); clear hK K) | ((first | refine sB ?_ | (with_reducible first | refine ops_cons (fun K hK => ?_) | refine W_reg lv33MdDD ?_) | with_reducible refine callV_snap ?_ | ((with_reducible refine call_go oneOS oneO_ok ?_); refine ⟨alk, _, _, oneO_at , ?_⟩) | with_reducible refine And.intro (fun h => ?_) (fun h => ?_) | with_reducible refine And.intro (by omega) ?_); (try simp only [go_sem, seval, reduceCtorEq, hki, e0, lv33MdDD, Tryz.ntmps33, Tryz.results33, TrkS])) | fail)
      refine ⟨i + 1, [], ⟨by omega, hT⟩, by omega, ?_⟩
      simp [go_sem]
    · rw [if_neg he] at hT
      rw [← hT]
      generalize ocE x = e at *
      have oneO_at : oneOS.rel [ocA x] [] (iv e) [] := C0
      repeat' (first | refine sA ?_ | with_reducible refine W_tf rfl (fun h => ?_) (fun h => ?_) | ((with_reducible first | refine hK _ ?_ | refine hK _ _ ?_); clear hK K) | ((first | refine sB ?_ | (with_reducible first | refine ops_cons (fun K hK => ?_) | refine W_reg lv33MdDD ?_) | with_reducible refine callV_snap ?_ | ((with_reducible refine call_go oneOS oneO_ok ?_); refine ⟨alk, _, _, oneO_at , ?_⟩) | with_reducible refine And.intro (fun h => ?_) (fun h => ?_) | with_reducible refine And.intro (by omega) ?_); (try simp only [go_sem, seval, reduceCtorEq, hki, e0, he, lv33MdDD, Tryz.ntmps33, Tryz.results33, TrkS])) | fail)
  · have hki : ¬ (i : Int) < l.length := by omega
    obtain rfl : i = l.length := by omega
    rw [List.drop_length, trF] at hT
    rw [← hT]
    repeat' (first | refine sA ?_ | with_reducible refine W_tf rfl (fun h => ?_) (fun h => ?_) | ((with_reducible first | refine hK _ ?_ | refine hK _ _ ?_); clear hK K) | ((first | refine sB ?_ | (with_reducible first | refine ops_cons (fun K hK => ?_) | refine W_reg lv33MdDD ?_) | with_reducible refine callV_snap ?_ | with_reducible refine And.intro (fun h => ?_) (fun h => ?_) | with_reducible refine And.intro (by omega) ?_); (try simp only [go_sem, seval, reduceCtorEq, hki, lv33MdDD, Tryz.ntmps33, Tryz.results33, TrkS])) | fail)
end Go.Proofs.YtpocnjliigjidaaGreat
namespace Go.Proofs.YtpocnjliigjidaaGreat
open Go.RowKit
set_option maxRecDepth 100000
set_option linter.unusedSimpArgs false
set_option linter.unusedVariables false
theorem rPg_at (al : List Bool) (mp : List Nat) (cs : List Cl) (p g : Int) (h : U64 mp) (h1 : al.length ≤ 1000000) (h2 : mp.length ≤ 1000000) (h3 : cs.length ≤ 1000000) : rPgS.rel [fm al mp cs, iv p, iv g] [] (.tup [.agg (ctA (pcO al mp cs p g)), iv (mapE al mp cs p g 0)]) [] := ⟨al, mp, cs, p, g, h, h1, h2, h3, rfl, rfl, rfl, rfl⟩
end Go.Proofs.YtpocnjliigjidaaGreat
namespace Go.Proofs.YtpocnjliigjidaaGreat
open Go.RowKit
set_option maxRecDepth 100000
set_option linter.unusedSimpArgs false
set_option linter.unusedVariables false
abbrev lv11MdZ2 : List (Nat × List Nat) := [(0, [0]), (1, [0, 4]), (2, [0, 4, 14]), (3, [2, 3]), (4, [6]), (5, [2, 3])]
abbrev lv13MdZ2 : List (Nat × List Nat) := [(0, [0, 2]), (1, [0, 2, 4]), (2, [0, 2, 4, 14]), (3, [2, 3]), (4, [0, 2, 6, 7]), (5, [2, 7, 25]), (6, [2, 3]), (7, [2, 3])]
abbrev rAlwS : Spec := alwS
theorem rAlw_at (l : List Oc) (h : l.length ≤ 1000000) {n : Nat} {e : Int} (h1 : tlN l = n) (h2 : (trE l).1 = e) : rAlwS.rel [ocL l] [] (.tup [iv (n : Int), iv e]) [] := ⟨l, h, rfl, rfl, by rw [h1, h2], rfl⟩
theorem rAlw_ok : Ok Tryz.prog 11 rAlwS := by
  refine fn_ok alwS Tryz.func11 rfl rfl ?_
  rintro args ins res outs ⟨l, hl, rfl, rfl, rfl, rfl⟩
  refine ⟨by simp [Tryz.ntmps11], fun w0 V Bo mu0 => ?_⟩
  have T0 := rTrk_at l hl (e := (trE l).1) (i := (trE l).2) rfl
  generalize (trE l).2 = I at *
  by_cases he : (trE l).1 = 0
  · have hval := (trE_ok he).2
    have wlk_at := wlk_at l hl hval
    have e1 : tlN l = (wk sy0 l).1 := if_pos he
    rw [e1, he]
    rw [he] at T0
    have rTrk_at : rTrkS.rel [ocL l] [] (.tup [iv 0, iv (I : Int)]) [] := T0
    generalize (wk sy0 l).1 = N at *
    generalize (wk sy0 l).2 = S at *
    repeat' (first | refine sA ?_ | with_reducible refine W_tf rfl (fun h => ?_) (fun h => ?_) | ((with_reducible first | refine hK _ ?_ | refine hK _ _ ?_); clear hK K) | ((first | refine sB ?_ | (with_reducible first | refine ops_cons (fun K hK => ?_) | refine W_reg lv11MdZ2 ?_) | with_reducible refine callV_snap ?_ | ((with_reducible refine call_go rTrkS rTrk_ok ?_); refine ⟨alk, _, _, rTrk_at , ?_⟩) | ((with_reducible refine call_go wlkS wlk_ok ?_); refine ⟨alk, _, _, wlk_at , ?_⟩) | with_reducible refine And.intro (fun h => ?_) (fun h => ?_) | with_reducible refine And.intro (by omega) ?_); (try simp only [go_sem, seval, reduceCtorEq, lv11MdZ2, Tryz.ntmps11, Tryz.results11, alwS])) | fail)
  · have e1 : tlN l = 0 := if_neg he
    rw [e1]
    generalize (trE l).1 = E at *
    have rTrk_at : rTrkS.rel [ocL l] [] (.tup [iv E, iv (I : Int)]) [] := T0
    repeat' (first | refine sA ?_ | with_reducible refine W_tf rfl (fun h => ?_) (fun h => ?_) | ((with_reducible first | refine hK _ ?_ | refine hK _ _ ?_); clear hK K) | ((first | refine sB ?_ | (with_reducible first | refine ops_cons (fun K hK => ?_) | refine W_reg lv11MdZ2 ?_) | with_reducible refine callV_snap ?_ | ((with_reducible refine call_go rTrkS rTrk_ok ?_); refine ⟨alk, _, _, rTrk_at , ?_⟩) | with_reducible refine And.intro (fun h => ?_) (fun h => ?_) | with_reducible refine And.intro (by omega) ?_); (try simp only [go_sem, seval, reduceCtorEq, he, lv11MdZ2, Tryz.ntmps11, Tryz.results11, alwS])) | fail)
theorem raft_ok' : Ok Tryz.prog 13 aftS := by
  refine fn_ok aftS Tryz.func13 rfl rfl ?_
  rintro args ins res outs ⟨l, hl, rfl, rfl, rfl, rfl⟩
  refine ⟨by simp [Tryz.ntmps13], fun w0 V Bo mu0 => ?_⟩
  have T0 := rTrk_at l hl (e := (trE l).1) (i := (trE l).2) rfl
  generalize (trE l).2 = I at *
  by_cases he : (trE l).1 = 0
  · have hval := (trE_ok he).2
    have wlk_at := wlk_at l hl hval
    have e1 : tlN l = (wk sy0 l).1 := if_pos he
    have e2 : tlS l = (wk sy0 l).2 := if_pos he
    have hE : afE l = if (trE l).1 = 0 ∧ tlN l < l.length then 9 else (trE l).1 := rfl
    have hT : afT l = if afE l = 0 then tlS l else syZ := rfl
    rw [he, e1] at hE
    rw [e2] at hT
    rw [hT]
    rw [he] at T0
    have rTrk_at : rTrkS.rel [ocL l] [] (.tup [iv 0, iv (I : Int)]) [] := T0
    generalize afE l = F at *
    generalize (wk sy0 l).1 = N at *
    generalize (wk sy0 l).2 = S at *
    by_cases hN : N < l.length
    · have hN' : (N : Int) < (l.length : Int) := by omega
      rw [if_pos ⟨rfl, hN⟩] at hE
      subst hE
      rw [if_neg (show ¬ (9 : Int) = 0 by decide)]
      repeat' (first | refine sA ?_ | with_reducible refine W_tf rfl (fun h => ?_) (fun h => ?_) | ((with_reducible first | refine hK _ ?_ | refine hK _ _ ?_); clear hK K) | ((first | refine sB ?_ | (with_reducible first | refine ops_cons (fun K hK => ?_) | refine W_reg lv13MdZ2 ?_) | with_reducible refine callV_snap ?_ | ((with_reducible refine call_go rTrkS rTrk_ok ?_); refine ⟨alk, _, _, rTrk_at , ?_⟩) | ((with_reducible refine call_go wlkS wlk_ok ?_); refine ⟨alk, _, _, wlk_at , ?_⟩) | with_reducible refine And.intro (fun h => ?_) (fun h => ?_) | with_reducible refine And.intro (by omega) ?_); (try simp only [go_sem, seval, reduceCtorEq, hN', lv13MdZ2, Tryz.ntmps13, Tryz.results13, aftS])) | fail)
    · have hN' : ¬ (N : Int) < (l.length : Int) := by omega
      rw [if_neg (fun h => hN h.2)] at hE
      subst hE
      rw [if_pos rfl, if_pos rfl]
      repeat' (first | refine sA ?_ | with_reducible refine W_tf rfl (fun h => ?_) (fun h => ?_) | ((with_reducible first | refine hK _ ?_ | refine hK _ _ ?_); clear hK K) | ((first | refine sB ?_ | (with_reducible first | refine ops_cons (fun K hK => ?_) | refine W_reg lv13MdZ2 ?_) | with_reducible refine callV_snap ?_ | ((with_reducible refine call_go rTrkS rTrk_ok ?_); refine ⟨alk, _, _, rTrk_at , ?_⟩) | ((with_reducible refine call_go wlkS wlk_ok ?_); refine ⟨alk, _, _, wlk_at , ?_⟩) | with_reducible refine And.intro (fun h => ?_) (fun h => ?_) | with_reducible refine And.intro (by omega) ?_); (try simp only [go_sem, seval, reduceCtorEq, hN', lv13MdZ2, Tryz.ntmps13, Tryz.results13, aftS])) | fail)
  · have hE : afE l = (trE l).1 := if_neg (fun h => he h.1)
    rw [hE, if_neg he]
    generalize (trE l).1 = E at *
    have rTrk_at : rTrkS.rel [ocL l] [] (.tup [iv E, iv (I : Int)]) [] := T0
    repeat' (first | refine sA ?_ | with_reducible refine W_tf rfl (fun h => ?_) (fun h => ?_) | ((with_reducible first | refine hK _ ?_ | refine hK _ _ ?_); clear hK K) | ((first | refine sB ?_ | (with_reducible first | refine ops_cons (fun K hK => ?_) | refine W_reg lv13MdZ2 ?_) | with_reducible refine callV_snap ?_ | ((with_reducible refine call_go rTrkS rTrk_ok ?_); refine ⟨alk, _, _, rTrk_at , ?_⟩) | with_reducible refine And.intro (fun h => ?_) (fun h => ?_) | with_reducible refine And.intro (by omega) ?_); (try simp only [go_sem, seval, reduceCtorEq, he, lv13MdZ2, Tryz.ntmps13, Tryz.results13, aftS])) | fail)
abbrev raftrS : Spec := aftrS
theorem raftr_at (l : List Oc) (h : l.length ≤ 1000000) : raftrS.rel [ocL l] [] (.tup [syA (afT l), iv (afE l)]) [] := ⟨l, h, rfl, rfl, rfl, rfl⟩
theorem raftr_ok : Ok Tryz.prog 13 raftrS := by
  refine ok_frz raft_ok' aftrS rfl ?_
  rintro args ins res outs ⟨l, h, rfl, rfl, rfl, rfl⟩
  refine ⟨rfl, rfl, _, _, ⟨l, h, rfl, rfl, rfl, rfl⟩, ?_⟩
  by_cases h : afE l = 0
  · rw [if_pos h]; rfl
  · have e : afT l = syZ := if_neg h
    rw [if_neg h, e]; rfl
end Go.Proofs.YtpocnjliigjidaaGreat
