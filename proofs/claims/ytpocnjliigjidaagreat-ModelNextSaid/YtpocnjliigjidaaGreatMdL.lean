import Derived.Test.YtpocnjliigjidaaGreatMdZ
import Derived.Test.YtpocnjliigjidaaGreatFlAH
import Derived.Test.YtpocnjliigjidaaGreatMdI
/- The reference's Next, Allowed, After; pages behind a trace. -/
namespace Go.Proofs.YtpocnjliigjidaaGreat
open Go.RowKit
set_option maxRecDepth 100000
set_option linter.unusedSimpArgs false
set_option linter.unusedVariables false
abbrev lv13MdZ2 : List (Nat × List Nat) := [(0, [0, 2]), (1, [0, 2, 4]), (2, [0, 2, 4, 14]), (3, [2, 3]), (4, [0, 2, 6, 7]), (5, [2, 7, 25]), (6, [2, 3]), (7, [2, 3])]
abbrev lv23MdZ2 : List (Nat × List Nat) := [(0, [2, 3, 4]), (1, [2, 3, 4, 6]), (2, [2, 3, 4, 6, 14]), (3, [4, 5]), (4, [2, 3, 4, 7]), (5, [2, 3, 4, 7, 24]), (6, [4, 5]), (7, [4, 9, 10]), (8, [4, 9, 34]), (9, [4, 5]), (10, [4, 5])]
def rNxS : Spec := { al := true, rel := fun args ins res outs => ∃ (s : Sy) (x : Oc), U64 s.m.2.1 ∧ s.m.1.length ≤ 1000000 ∧ s.m.2.1.length ≤ 1000000 ∧ s.m.2.2.length ≤ 1000000 ∧ s.W.length ≤ 1000000 ∧ args = [syA s, ocA x] ∧ ins = [] ∧ res = .tup [if (nxtF s x).2 = 0 then syA (nxtF s x).1 else zrS, iv (nxtF s x).2] ∧ outs = [] }
set_option maxHeartbeats 2000000 in
theorem rNx_ok : Ok Tryz.prog 23 rNxS := by
  refine fn_ok rNxS Tryz.func23 rfl rfl ?_
  rintro args ins res outs ⟨s, x, hu, h2, h3, h4, h5, rfl, rfl, rfl, rfl⟩
  refine ⟨by simp [Tryz.ntmps23], fun w0 V Bo mu0 => ?_⟩
  have C0 := rCky_at s hu h2 h3 h4 h5 rfl
  by_cases hs : sye s = 0
  case neg =>
    rw [nxt_ck hs]
    dsimp only
    rw [if_neg hs]
    generalize sye s = E at *
    have rCky_at : rCkyS.rel [syA s] [] (iv E) [] := C0
    repeat' (first | refine sA ?_ | with_reducible refine W_tf rfl (fun h => ?_) (fun h => ?_) | ((with_reducible first | refine hK _ ?_ | refine hK _ _ ?_); clear hK K) | ((first | refine sB ?_ | (with_reducible first | refine ops_cons (fun K hK => ?_) | refine W_reg lv23MdZ2 ?_) | with_reducible refine callV_snap ?_ | ((with_reducible refine call_go rCkyS rCky_ok ?_); refine ⟨alk, _, _, rCky_at , ?_⟩) | with_reducible refine And.intro (fun h => ?_) (fun h => ?_) | with_reducible refine And.intro (by omega) ?_); (try simp only [go_sem, seval, reduceCtorEq, hs, lv23MdZ2, Tryz.ntmps23, Tryz.results23, rNxS])) | fail)
  rw [hs] at C0
  have rCky_at : rCkyS.rel [syA s] [] (iv 0) [] := C0
  have T0 := rTrk_at [x] (by simp) trE_one
  by_cases hx : ocE x = 0
  case neg =>
    rw [nxt_oc hs hx]
    dsimp only
    rw [if_neg hx]
    generalize ocE x = E at *
    have rTrk_at : rTrkS.rel [ocL [x]] [] (.tup [iv E, iv ((0 : Nat) : Int)]) [] := T0
    repeat' (first | refine sA ?_ | with_reducible refine W_tf rfl (fun h => ?_) (fun h => ?_) | ((with_reducible first | refine hK _ ?_ | refine hK _ _ ?_); clear hK K) | ((first | refine sB ?_ | (with_reducible first | refine ops_cons (fun K hK => ?_) | refine W_reg lv23MdZ2 ?_) | with_reducible refine callV_snap ?_ | ((with_reducible refine call_go rCkyS rCky_ok ?_); refine ⟨alk, _, _, rCky_at , ?_⟩) | ((with_reducible refine call_go rTrkS rTrk_ok ?_); refine ⟨alk, _, _, rTrk_at , ?_⟩) | with_reducible refine And.intro (fun h => ?_) (fun h => ?_) | with_reducible refine And.intro (by omega) ?_); (try simp only [go_sem, seval, reduceCtorEq, hx, lv23MdZ2, Tryz.ntmps23, Tryz.results23, rNxS])) | fail)
  rw [hx] at T0
  have rTrk_at : rTrkS.rel [ocL [x]] [] (.tup [iv 0, iv ((0 : Nat) : Int)]) [] := T0
  have hv := sye_vs hu hs
  have R0 := rnxF_at s x hv hx
  have hR := rnx_eq s x
  cases hnx : (nx s x).isSome with
  | false =>
    rw [hnx] at R0 hR
    rw [if_neg (by decide)] at hR
    rw [nxt_no hs hx hR]
    dsimp only
    rw [if_neg (by decide)]
    generalize rnx s x = u at *
    have rnxF_at : rnxFS.rel [syA s, ocA x] [] (.tup [syA u, bv false]) [] := R0
    repeat' (first | refine sA ?_ | with_reducible refine W_tf rfl (fun h => ?_) (fun h => ?_) | ((with_reducible first | refine hK _ ?_ | refine hK _ _ ?_); clear hK K) | ((first | refine sB ?_ | (with_reducible first | refine ops_cons (fun K hK => ?_) | refine W_reg lv23MdZ2 ?_) | with_reducible refine callV_snap ?_ | ((with_reducible refine call_go rCkyS rCky_ok ?_); refine ⟨alk, _, _, rCky_at , ?_⟩) | ((with_reducible refine call_go rTrkS rTrk_ok ?_); refine ⟨alk, _, _, rTrk_at , ?_⟩) | ((with_reducible refine call_go rnxFS rnxF_ok ?_); refine ⟨alk, _, _, rnxF_at , ?_⟩) | with_reducible refine And.intro (fun h => ?_) (fun h => ?_) | with_reducible refine And.intro (by omega) ?_); (try simp only [go_sem, seval, reduceCtorEq, lv23MdZ2, Tryz.ntmps23, Tryz.results23, rNxS])) | fail)
  | true =>
    rw [hnx] at R0 hR
    rw [if_pos rfl] at hR
    rw [nxt_so hs hx hR]
    dsimp only
    rw [if_pos rfl]
    generalize rnx s x = u at *
    have rnxF_at : rnxFS.rel [syA s, ocA x] [] (.tup [syA u, bv true]) [] := R0
    repeat' (first | refine sA ?_ | with_reducible refine W_tf rfl (fun h => ?_) (fun h => ?_) | ((with_reducible first | refine hK _ ?_ | refine hK _ _ ?_); clear hK K) | ((first | refine sB ?_ | (with_reducible first | refine ops_cons (fun K hK => ?_) | refine W_reg lv23MdZ2 ?_) | with_reducible refine callV_snap ?_ | ((with_reducible refine call_go rCkyS rCky_ok ?_); refine ⟨alk, _, _, rCky_at , ?_⟩) | ((with_reducible refine call_go rTrkS rTrk_ok ?_); refine ⟨alk, _, _, rTrk_at , ?_⟩) | ((with_reducible refine call_go rnxFS rnxF_ok ?_); refine ⟨alk, _, _, rnxF_at , ?_⟩) | with_reducible refine And.intro (fun h => ?_) (fun h => ?_) | with_reducible refine And.intro (by omega) ?_); (try simp only [go_sem, seval, reduceCtorEq, lv23MdZ2, Tryz.ntmps23, Tryz.results23, rNxS])) | fail)
abbrev rNxtFS : Spec := NxtFS
theorem rNxtF_at (s : Sy) (x : Oc) (h1 : U64 s.m.2.1) (h2 : s.m.1.length ≤ 1000000) (h3 : s.m.2.1.length ≤ 1000000) (h4 : s.m.2.2.length ≤ 1000000) (h5 : s.W.length ≤ 1000000) : rNxtFS.rel [syA s, ocA x] [] (.tup [syA (nxtF s x).1, iv (nxtF s x).2]) [] := ⟨s, x, h1, h2, h3, h4, h5, rfl, rfl, rfl, rfl⟩
theorem rNxtF_ok : Ok Tryz.prog 23 rNxtFS := by
  refine ok_frz rNx_ok NxtFS rfl ?_
  rintro args ins res outs ⟨s, x, h1, h2, h3, h4, h5, rfl, rfl, rfl, rfl⟩
  refine ⟨rfl, rfl, _, _, ⟨s, x, h1, h2, h3, h4, h5, rfl, rfl, rfl, rfl⟩, ?_⟩
  by_cases h : (nxtF s x).2 = 0
  · rw [if_pos h]; rfl
  · rw [if_neg h, nxt_z h]; rfl
theorem raft_ok' : Ok Tryz.prog 13 aftS := by
  refine fn_ok aftS Tryz.func13 rfl rfl ?_
  rintro args ins res outs ⟨l, hl, rfl, rfl, rfl, rfl⟩
  refine ⟨by simp [Tryz.ntmps13], fun w0 V Bo mu0 => ?_⟩
  have T0 := rTrk_at l hl (e := (trE l).1) (i := (trE l).2) rfl
  generalize (trE l).2 = I at *
  by_cases he : (trE l).1 = 0
  · have hval := (trE_ok he).2
    have wlk_at := wlk_at l hl hval
    have e1 : tlN l = (wk sy0 l).1 := if_pos he
    have e2 : tlS l = (wk sy0 l).2 := if_pos he
    have hE : afE l = if (trE l).1 = 0 ∧ tlN l < l.length then 9 else (trE l).1 := rfl
    have hT : afT l = if afE l = 0 then tlS l else syZ := rfl
    rw [he, e1] at hE
    rw [e2] at hT
    rw [hT]
    rw [he] at T0
    have rTrk_at : rTrkS.rel [ocL l] [] (.tup [iv 0, iv (I : Int)]) [] := T0
    generalize afE l = F at *
    generalize (wk sy0 l).1 = N at *
    generalize (wk sy0 l).2 = S at *
    by_cases hN : N < l.length
    · have hN' : (N : Int) < (l.length : Int) := by omega
      rw [if_pos ⟨rfl, hN⟩] at hE
      subst hE
      rw [if_neg (show ¬ (9 : Int) = 0 by decide)]
      repeat' (first | refine sA ?_ | with_reducible refine W_tf rfl (fun h => ?_) (fun h => ?_) | ((with_reducible first | refine hK _ ?_ | refine hK _ _ ?_); clear hK K) | ((first | refine sB ?_ | (with_reducible first | refine ops_cons (fun K hK => ?_) | refine W_reg lv13MdZ2 ?_) | with_reducible refine callV_snap ?_ | ((with_reducible refine call_go rTrkS rTrk_ok ?_); refine ⟨alk, _, _, rTrk_at , ?_⟩) | ((with_reducible refine call_go wlkS wlk_ok ?_); refine ⟨alk, _, _, wlk_at , ?_⟩) | with_reducible refine And.intro (fun h => ?_) (fun h => ?_) | with_reducible refine And.intro (by omega) ?_); (try simp only [go_sem, seval, reduceCtorEq, hN', lv13MdZ2, Tryz.ntmps13, Tryz.results13, aftS])) | fail)
    · have hN' : ¬ (N : Int) < (l.length : Int) := by omega
      rw [if_neg (fun h => hN h.2)] at hE
      subst hE
      rw [if_pos rfl, if_pos rfl]
      repeat' (first | refine sA ?_ | with_reducible refine W_tf rfl (fun h => ?_) (fun h => ?_) | ((with_reducible first | refine hK _ ?_ | refine hK _ _ ?_); clear hK K) | ((first | refine sB ?_ | (with_reducible first | refine ops_cons (fun K hK => ?_) | refine W_reg lv13MdZ2 ?_) | with_reducible refine callV_snap ?_ | ((with_reducible refine call_go rTrkS rTrk_ok ?_); refine ⟨alk, _, _, rTrk_at , ?_⟩) | ((with_reducible refine call_go wlkS wlk_ok ?_); refine ⟨alk, _, _, wlk_at , ?_⟩) | with_reducible refine And.intro (fun h => ?_) (fun h => ?_) | with_reducible refine And.intro (by omega) ?_); (try simp only [go_sem, seval, reduceCtorEq, hN', lv13MdZ2, Tryz.ntmps13, Tryz.results13, aftS])) | fail)
  · have hE : afE l = (trE l).1 := if_neg (fun h => he h.1)
    rw [hE, if_neg he]
    generalize (trE l).1 = E at *
    have rTrk_at : rTrkS.rel [ocL l] [] (.tup [iv E, iv (I : Int)]) [] := T0
    repeat' (first | refine sA ?_ | with_reducible refine W_tf rfl (fun h => ?_) (fun h => ?_) | ((with_reducible first | refine hK _ ?_ | refine hK _ _ ?_); clear hK K) | ((first | refine sB ?_ | (with_reducible first | refine ops_cons (fun K hK => ?_) | refine W_reg lv13MdZ2 ?_) | with_reducible refine callV_snap ?_ | ((with_reducible refine call_go rTrkS rTrk_ok ?_); refine ⟨alk, _, _, rTrk_at , ?_⟩) | with_reducible refine And.intro (fun h => ?_) (fun h => ?_) | with_reducible refine And.intro (by omega) ?_); (try simp only [go_sem, seval, reduceCtorEq, he, lv13MdZ2, Tryz.ntmps13, Tryz.results13, aftS])) | fail)
abbrev raftrS : Spec := aftrS
theorem raftr_at (l : List Oc) (h : l.length ≤ 1000000) : raftrS.rel [ocL l] [] (.tup [syA (afT l), iv (afE l)]) [] := ⟨l, h, rfl, rfl, rfl, rfl⟩
theorem raftr_ok : Ok Tryz.prog 13 raftrS := by
  refine ok_frz raft_ok' aftrS rfl ?_
  rintro args ins res outs ⟨l, h, rfl, rfl, rfl, rfl⟩
  refine ⟨rfl, rfl, _, _, ⟨l, h, rfl, rfl, rfl, rfl⟩, ?_⟩
  by_cases h : afE l = 0
  · rw [if_pos h]; rfl
  · have e : afT l = syZ := if_neg h
    rw [if_neg h, e]; rfl
end Go.Proofs.YtpocnjliigjidaaGreat
namespace Go.Proofs.YtpocnjliigjidaaGreat
open Go.RowKit
set_option maxRecDepth 100000
set_option linter.unusedSimpArgs false
set_option linter.unusedVariables false
theorem encOce : Enc encOc 7 := ⟨fun _ => rfl, fun x d hd => by simp only [encOc, List.mem_cons, List.not_mem_nil, or_false] at hd; rcases hd with rfl | rfl | rfl | rfl | rfl | rfl | rfl <;> rfl⟩
def w4 : List Oc := [⟨9, 1, 0, 0, 0, 1, 0⟩, ⟨6, 1, 0, 0, 0, 1, 0⟩, ⟨1, 1, 7, 3, 0, 0, 0⟩, ⟨3, 1, 0, 3, 0, 0, 0⟩]
def firS : Spec := { rel := fun args ins res outs => ∃ l : List Oc, l.length ≤ 1000 ∧ args = [ocL l] ∧ ins = [] ∧ res = .row 0 7 0 (w4 ++ l).length ∧ outs = [.rows 51 7 ((w4 ++ l).map encOc)] }
set_option maxHeartbeats 1000000 in
theorem fir_ok : Ok Tryz.prog 29 firS := by
  refine fn_ok firS Tryz.func29 rfl rfl ?_
  rintro args ins res outs ⟨l, hl, rfl, rfl, rfl, rfl⟩
  refine ⟨by simp [Tryz.ntmps29], fun w0 V Bo mu0 => ?_⟩
  repeat' (first | refine sA ?_ | ((with_reducible first | refine hK _ ?_ | refine hK _ _ ?_); clear hK K) | ((with_reducible refine And.intro (encOce.rows _) ?_)) | ((first | refine sC ?_ | (with_reducible first | refine ops_cons (fun K hK => ?_) | refine W_reg [(0, [0]), (1, [0, 3]), (2, [2])] ?_) | with_reducible refine callV_snap ?_ | with_reducible refine And.intro (fun h => ?_) (fun h => ?_) | with_reducible refine And.intro (by omega) ?_); (try simp only [go_sem, seval, reduceCtorEq, Tryz.ntmps29, Tryz.results29, firS])) | fail)
  refine W_ret (endQ_ret (end_at [1] ?_))
  have := encOce.flat l
  have e4 : 4 + l.length = (w4 ++ l).length := by simp [w4]; omega
  simp [go_sem, Tryz.results29, firS, w4, encOc]
  all_goals omega
theorem fir_at (l L : List Oc) (h : l.length ≤ 1000) (hL : w4 ++ l = L) : firS.rel [ocL l] [] (.row 0 7 0 L.length) [.rows 51 7 (L.map encOc)] := ⟨l, h, rfl, rfl, by rw [hL], by rw [hL]⟩
def allS : Spec := { rel := fun args ins res outs => ∃ (n : Int) (l : List Oc), l.length ≤ 1000000 ∧ args = [iv n, ocL l] ∧ ins = [] ∧ res = bv (decide ((tlN l : Int) = n ∧ (trE l).1 = 0)) ∧ outs = [] }
theorem all_at (n : Nat) (l : List Oc) (h : l.length ≤ 1000000) (h1 : tlN l = n) (h2 : (trE l).1 = 0) : allS.rel [iv (n : Int), ocL l] [] (bv true) [] := ⟨(n : Int), l, h, rfl, rfl, by rw [h1, h2, decide_eq_true (⟨rfl, rfl⟩ : (n : Int) = (n : Int) ∧ (0 : Int) = 0)], rfl⟩
theorem all_ok : Ok Tryz.prog 28 allS := by
  refine fn_ok allS Tryz.func28 rfl rfl ?_
  rintro args ins res outs ⟨n, l, hl, rfl, rfl, rfl, rfl⟩
  refine ⟨by simp [Tryz.ntmps28], fun w0 V Bo mu0 => ?_⟩
  have A0 := alw_at l hl (n := tlN l) (e := (trE l).1) rfl rfl
  generalize tlN l = N at *
  generalize (trE l).1 = E at *
  have alw_at : alwS.rel [ocL l] [] (.tup [iv (N : Int), iv E]) [] := A0
  by_cases h1 : (N : Int) = n
  · by_cases h2 : E = 0
    · rw [decide_eq_true ⟨h1, h2⟩]
      repeat' (first | refine sA ?_ | ((with_reducible first | refine hK _ ?_ | refine hK _ _ ?_); clear hK K) | ((first | refine sB ?_ | (with_reducible first | refine ops_cons (fun K hK => ?_) | refine W_reg [(0, [0, 1]), (1, [0, 5, 6]), (2, [4])] ?_) | with_reducible refine callV_snap ?_ | ((with_reducible refine call_go alwS alw_ok ?_); refine ⟨alk, _, _, alw_at , ?_⟩) | with_reducible refine And.intro (fun h => ?_) (fun h => ?_) | with_reducible refine And.intro (by omega) ?_); (try simp only [go_sem, seval, reduceCtorEq, h1, h2, Tryz.ntmps28, Tryz.results28, allS])) | fail)
    · rw [decide_eq_false (fun h => h2 h.2)]
      repeat' (first | refine sA ?_ | ((with_reducible first | refine hK _ ?_ | refine hK _ _ ?_); clear hK K) | ((first | refine sB ?_ | (with_reducible first | refine ops_cons (fun K hK => ?_) | refine W_reg [(0, [0, 1]), (1, [0, 5, 6]), (2, [4])] ?_) | with_reducible refine callV_snap ?_ | ((with_reducible refine call_go alwS alw_ok ?_); refine ⟨alk, _, _, alw_at , ?_⟩) | with_reducible refine And.intro (fun h => ?_) (fun h => ?_) | with_reducible refine And.intro (by omega) ?_); (try simp only [go_sem, seval, reduceCtorEq, h1, h2, Tryz.ntmps28, Tryz.results28, allS])) | fail)
  · rw [decide_eq_false (fun h => h1 h.1)]
    repeat' (first | refine sA ?_ | ((with_reducible first | refine hK _ ?_ | refine hK _ _ ?_); clear hK K) | ((first | refine sB ?_ | (with_reducible first | refine ops_cons (fun K hK => ?_) | refine W_reg [(0, [0, 1]), (1, [0, 5, 6]), (2, [4])] ?_) | with_reducible refine callV_snap ?_ | ((with_reducible refine call_go alwS alw_ok ?_); refine ⟨alk, _, _, alw_at , ?_⟩) | with_reducible refine And.intro (fun h => ?_) (fun h => ?_) | with_reducible refine And.intro (by omega) ?_); (try simp only [go_sem, seval, reduceCtorEq, h1, Tryz.ntmps28, Tryz.results28, allS])) | fail)
def aA : List Oc := [⟨6, 1, 0, 0, 0, 1, 0⟩]
def aB : List Oc := [⟨9, 1, 0, 0, 0, 5, 0⟩, ⟨1, 1, 8, 8, 0, 0, 0⟩]
theorem w4_n : tlN w4 = 4 := by decide +kernel
theorem w4_e : (trE w4).1 = 0 := by decide +kernel
theorem aA_n : tlN aA = 0 := by decide +kernel
theorem aA_e : (trE aA).1 = 0 := by decide +kernel
def aC : List Oc := w4 ++ aB
theorem aB_n : tlN aC = 5 := by decide +kernel
theorem aB_e : (trE aC).1 = 0 := by decide +kernel
def awkS : Spec := { rel := fun args ins res outs => args = [] ∧ ins = [] ∧ res = bv true ∧ outs = [] }
theorem awk_at : awkS.rel [] [] (bv true) [] := ⟨rfl, rfl, rfl, rfl⟩
set_option maxHeartbeats 1000000 in
theorem awk_ok : Ok Tryz.prog 6 awkS := by
  refine fn_ok awkS Tryz.func6 rfl rfl ?_
  rintro args ins res outs ⟨rfl, rfl, rfl, rfl⟩
  refine ⟨by simp [Tryz.ntmps6], fun w0 V Bo mu0 => ?_⟩
  repeat' (first | refine sA ?_ | ((with_reducible first | refine hK _ ?_ | refine hK _ _ ?_); clear hK K) | ((first | refine sB ?_ | (with_reducible first | refine ops_cons (fun K hK => ?_) | refine W_reg [(0, []), (1, [0])] ?_) | with_reducible refine callV_snap ?_ | ((with_reducible refine call_go firS fir_ok ?_); refine ⟨alk, _, _, fir_at [] w4 (by decide) rfl, ?_⟩) | ((with_reducible refine call_go firS fir_ok ?_); refine ⟨alk, _, _, fir_at aB aC (by decide) rfl, ?_⟩) | ((with_reducible refine call_go allS all_ok ?_); refine ⟨alk, _, _, all_at 4 w4 (by decide) w4_n w4_e, ?_⟩) | ((with_reducible refine call_go allS all_ok ?_); refine ⟨alk, _, _, all_at 0 aA (by decide) aA_n aA_e, ?_⟩) | ((with_reducible refine call_go allS all_ok ?_); refine ⟨alk, _, _, all_at 5 aC (by decide) aB_n aB_e, ?_⟩) | with_reducible refine And.intro (fun h => ?_) (fun h => ?_) | with_reducible refine And.intro (by omega) ?_); (try simp only [go_sem, seval, reduceCtorEq, Tryz.ntmps6, Tryz.results6, awkS])) | fail)
  all_goals trace_state
end Go.Proofs.YtpocnjliigjidaaGreat
