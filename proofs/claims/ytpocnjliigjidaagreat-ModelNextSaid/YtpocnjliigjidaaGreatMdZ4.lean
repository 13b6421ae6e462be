import Derived.Test.YtpocnjliigjidaaGreatMdP
import Derived.Test.YtpocnjliigjidaaGreatMdI
import Derived.Test.YtpocnjliigjidaaGreatMdL
/- Stories made of numbers: what a number asks for, the trace it gives, and what such a trace is like. -/
namespace Go.Proofs.YtpocnjliigjidaaGreat
open Go.RowKit
set_option maxRecDepth 100000
set_option linter.unusedSimpArgs false
set_option linter.unusedVariables false
end Go.Proofs.YtpocnjliigjidaaGreat
namespace Go.Proofs.YtpocnjliigjidaaGreat
open Go.RowKit
set_option maxRecDepth 100000
set_option linter.unusedSimpArgs false
set_option linter.unusedVariables false
end Go.Proofs.YtpocnjliigjidaaGreat
namespace Go.Proofs.YtpocnjliigjidaaGreat
open Go.RowKit
set_option maxRecDepth 100000
set_option linter.unusedSimpArgs false
set_option linter.unusedVariables false
theorem vs_len {s : Sy} (h : Vs s) : U64 s.m.2.1 ∧ s.m.1.length ≤ 1000000 ∧ s.m.2.1.length ≤ 1000000 ∧ s.m.2.2.length ≤ 1000000 ∧ s.W.length ≤ 1000000 ∧ s.L ≤ mxT := by
  have l1 := vl_len h.v
  have l2 := h.v.la
  have l3 := h.v.lm
  have l4 := h.lw
  exact ⟨h.v.u, by omega, by omega, by omega, by omega, h.lt⟩
def samS : Spec := { rel := fun args ins res outs => ∃ s : Sy, s.m.1.length ≤ 1000000 ∧ s.m.2.1.length ≤ 1000000 ∧ s.m.2.2.length ≤ 1000000 ∧ s.W.length ≤ 1000000 ∧ args = [syA s, syA s] ∧ ins = [] ∧ res = bv true ∧ outs = [] }
theorem sam_at (s : Sy) (h1 : s.m.1.length ≤ 1000000) (h2 : s.m.2.1.length ≤ 1000000) (h3 : s.m.2.2.length ≤ 1000000) (h4 : s.W.length ≤ 1000000) : samS.rel [syA s, syA s] [] (bv true) [] := ⟨s, h1, h2, h3, h4, rfl, rfl, rfl, rfl⟩
theorem sam_ok : Ok Tryz.prog 14 samS := by
  refine fn_ok samS Tryz.func14 rfl rfl ?_
  rintro args ins res outs ⟨s, h1, h2, h3, h4, rfl, rfl, rfl, rfl⟩
  refine ⟨by simp [Tryz.ntmps14], fun w0 V Bo mu0 => ?_⟩
  have F0 := Smf_at s.m.1 s.m.1 s.m.2.1 s.m.2.1 s.m.2.2 s.m.2.2 h1 h1 h2 h2 h3 h3
  rw [decide_eq_true (⟨rfl, rfl, rfl⟩ : s.m.1 = s.m.1 ∧ s.m.2.1 = s.m.2.1 ∧ s.m.2.2 = s.m.2.2)] at F0
  have W0 := Smw_at s.W s.W h4 h4
  rw [decide_eq_true (rfl : s.W = s.W)] at W0
  have Smf_at : SmfS.rel [fm s.m.1 s.m.2.1 s.m.2.2, fm s.m.1 s.m.2.1 s.m.2.2] [] (bv true) [] := F0
  have Smw_at : SmwS.rel [.d (.sl (s.W.map encU)), .d (.sl (s.W.map encU))] [] (bv true) [] := W0
  repeat' (first | refine sA ?_ | ((with_reducible first | refine hK _ ?_ | refine hK _ _ ?_); clear hK K) | ((first | refine sB ?_ | (with_reducible first | refine ops_cons (fun K hK => ?_) | refine W_reg [(0, [2, 3]), (1, [4])] ?_) | with_reducible refine callV_snap ?_ | ((with_reducible refine call_go SmfS Smf_ok ?_); refine ⟨alk, _, _, Smf_at , ?_⟩) | ((with_reducible refine call_go SmwS Smw_ok ?_); refine ⟨alk, _, _, Smw_at , ?_⟩) | with_reducible refine And.intro (fun h => ?_) (fun h => ?_) | with_reducible refine And.intro (by omega) ?_); (try simp only [go_sem, seval, reduceCtorEq, Tryz.ntmps14, Tryz.results14, samS])) | fail)
end Go.Proofs.YtpocnjliigjidaaGreat
namespace Go.Proofs.YtpocnjliigjidaaGreat
open Go.RowKit
set_option maxRecDepth 100000
set_option linter.unusedSimpArgs false
set_option linter.unusedVariables false
abbrev lv5MdZ4 : List (Nat × List Nat) := [(0, [2, 3]), (1, [2, 3, 34]), (2, [4]), (3, [2, 3, 5]), (4, [2, 3, 5, 6, 7]), (5, [2, 5, 6, 7, 8, 9]), (6, [4])]
def lOwS : Spec := { al := true, rel := fun args ins res outs => ∃ s : Sy, s.m.1.length ≤ 1000000 ∧ s.m.2.1.length ≤ 1000000 ∧ s.m.2.2.length ≤ 1000000 ∧ s.W.length ≤ 1000000 ∧ args = [syA s] ∧ ins = [] ∧ res = syR 0 s ∧ outs = [.rows 24 1 (s.W.map encU)] }
theorem lOw_ok : Ok Tryz.prog 21 lOwS := by
  refine fn_ok lOwS Tryz.func21 rfl rfl ?_
  rintro args ins res outs ⟨s, h2, h3, h4, h5, rfl, rfl, rfl, rfl⟩
  refine ⟨by simp [Tryz.ntmps21], fun w0 V Bo mu0 => ?_⟩
  have OwfF_at := OwfF_at s.m.1 s.m.2.1 s.m.2.2 h2 h3 h4
  have Oww_at := Oww_at s.W h5
  repeat' (first | refine sA ?_ | ((with_reducible first | refine hK _ ?_ | refine hK _ _ ?_); clear hK K) | ((first | refine sC ?_ | (with_reducible first | refine ops_cons (fun K hK => ?_) | refine opsd_cons (fun K hK => ?_) | refine W_reg [(0, [1, 2]), (1, [2])] ?_ | refine W_drw [(0, [1, 2]), (1, [2])] (by kernel_rfl) ?_) | ((with_reducible refine opsd_nil ?_); refine And.intro (by kernel_rfl) ?_) | with_reducible refine callV_snap ?_ | ((with_reducible refine call_go OwfFS OwfF_ok ?_); refine ⟨alk, _, _, OwfF_at , ?_⟩) | ((with_reducible refine call_go OwwS Oww_ok ?_); refine ⟨alk, _, _, Oww_at , ?_⟩) | with_reducible refine And.intro (fun h => ?_) (fun h => ?_) | with_reducible refine And.intro (by omega) ?_); (try simp only [go_sem, seval, reduceCtorEq, Tryz.ntmps21, Tryz.results21, lOwS])) | fail)
  refine W_ret (endQ_ret (end_at [2] ?_))
  simp [go_sem, Tryz.results21, lOwS]
def lOwFS : Spec := { al := true, rel := fun args ins res outs => ∃ s : Sy, s.m.1.length ≤ 1000000 ∧ s.m.2.1.length ≤ 1000000 ∧ s.m.2.2.length ≤ 1000000 ∧ s.W.length ≤ 1000000 ∧ args = [syA s] ∧ ins = [] ∧ res = syA s ∧ outs = [] }
theorem lOwF_at (s : Sy) (h2 : s.m.1.length ≤ 1000000) (h3 : s.m.2.1.length ≤ 1000000) (h4 : s.m.2.2.length ≤ 1000000) (h5 : s.W.length ≤ 1000000) : lOwFS.rel [syA s] [] (syA s) [] := ⟨s, h2, h3, h4, h5, rfl, rfl, rfl, rfl⟩
theorem lOwF_ok : Ok Tryz.prog 21 lOwFS := by
  refine ok_frz lOw_ok lOwFS rfl ?_
  rintro args ins res outs ⟨s, h2, h3, h4, h5, rfl, rfl, rfl, rfl⟩
  refine ⟨rfl, rfl, _, _, ⟨s, h2, h3, h4, h5, rfl, rfl, rfl, rfl⟩, ?_⟩
  simp [frz, frzA, frzAL, frzL, frz1, List.take_of_length_le]
theorem nxt_len {s : Sy} {x : Oc} (hu : U64 s.m.2.1) : (nxtF s x).1.m.1.length ≤ 1000000 ∧ (nxtF s x).1.m.2.1.length ≤ 1000000 ∧ (nxtF s x).1.m.2.2.length ≤ 1000000 ∧ (nxtF s x).1.W.length ≤ 1000000 := by
  by_cases h : (nxtF s x).2 = 0
  · by_cases hs : sye s = 0
    · by_cases hx : ocE x = 0
      · cases hn : nx s x with
        | none => rw [nxt_no hs hx hn] at h; cases h
        | some t =>
          rw [nxt_so hs hx hn]
          obtain ⟨_, a, b, c, d, _⟩ := vs_len (nx_vs (sye_vs hu hs) hx hn)
          exact ⟨a, b, c, d⟩
      · rw [nxt_oc hs hx] at h; exact absurd h hx
    · rw [nxt_ck hs] at h; exact absurd h hs
  · rw [nxt_z h]; exact ⟨by decide, by decide, by decide, by decide⟩
def mnxS : Spec := { al := true, rel := fun args ins res outs => ∃ (s : Sy) (x : Oc), U64 s.m.2.1 ∧ args = [syA s, ocA x] ∧ ins = [] ∧ res = bv true ∧ outs = [] }
set_option maxHeartbeats 4000000 in
theorem mnx_ok : Ok Tryz.prog 5 mnxS := by
  refine fn_ok mnxS Tryz.func5 rfl rfl ?_
  rintro args ins res outs ⟨s, x, hu, rfl, rfl, rfl, rfl⟩
  refine ⟨by simp [Tryz.ntmps5], fun w0 V Bo mu0 => ?_⟩
  by_cases hW : 10 < (s.W.length : Int)
  · skip
    repeat' (first | refine sA ?_ | with_reducible refine W_tf rfl (fun h => ?_) (fun h => ?_) | ((with_reducible first | refine hK _ ?_ | refine hK _ _ ?_); clear hK K) | ((first | refine sB ?_ | (with_reducible first | refine ops_cons (fun K hK => ?_) | refine opsd_cons (fun K hK => ?_) | refine W_reg lv5MdZ4 ?_ | refine W_drw lv5MdZ4 (by kernel_rfl) ?_) | ((with_reducible refine opsd_nil ?_); refine And.intro (by kernel_rfl) ?_) | with_reducible refine callV_snap ?_ | ((with_reducible refine call_go awkS awk_ok ?_); refine ⟨alk, _, _, awk_at , ?_⟩) | with_reducible refine And.intro (fun h => ?_) (fun h => ?_) | with_reducible refine And.intro (by omega) ?_); (try simp only [go_sem, seval, reduceCtorEq, hW, lv5MdZ4, Tryz.ntmps5, Tryz.results5, mnxS])) | fail)
  by_cases hA : 10 < (s.m.1.length : Int)
  · skip
    repeat' (first | refine sA ?_ | with_reducible refine W_tf rfl (fun h => ?_) (fun h => ?_) | ((with_reducible first | refine hK _ ?_ | refine hK _ _ ?_); clear hK K) | ((first | refine sB ?_ | (with_reducible first | refine ops_cons (fun K hK => ?_) | refine opsd_cons (fun K hK => ?_) | refine W_reg lv5MdZ4 ?_ | refine W_drw lv5MdZ4 (by kernel_rfl) ?_) | ((with_reducible refine opsd_nil ?_); refine And.intro (by kernel_rfl) ?_) | with_reducible refine callV_snap ?_ | ((with_reducible refine call_go awkS awk_ok ?_); refine ⟨alk, _, _, awk_at , ?_⟩) | with_reducible refine And.intro (fun h => ?_) (fun h => ?_) | with_reducible refine And.intro (by omega) ?_); (try simp only [go_sem, seval, reduceCtorEq, hW, hA, lv5MdZ4, Tryz.ntmps5, Tryz.results5, mnxS])) | fail)
  by_cases hM : 10 < (s.m.2.1.length : Int)
  · skip
    repeat' (first | refine sA ?_ | with_reducible refine W_tf rfl (fun h => ?_) (fun h => ?_) | ((with_reducible first | refine hK _ ?_ | refine hK _ _ ?_); clear hK K) | ((first | refine sB ?_ | (with_reducible first | refine ops_cons (fun K hK => ?_) | refine opsd_cons (fun K hK => ?_) | refine W_reg lv5MdZ4 ?_ | refine W_drw lv5MdZ4 (by kernel_rfl) ?_) | ((with_reducible refine opsd_nil ?_); refine And.intro (by kernel_rfl) ?_) | with_reducible refine callV_snap ?_ | ((with_reducible refine call_go awkS awk_ok ?_); refine ⟨alk, _, _, awk_at , ?_⟩) | with_reducible refine And.intro (fun h => ?_) (fun h => ?_) | with_reducible refine And.intro (by omega) ?_); (try simp only [go_sem, seval, reduceCtorEq, hW, hA, hM, lv5MdZ4, Tryz.ntmps5, Tryz.results5, mnxS])) | fail)
  by_cases hC : 60 < (s.m.2.2.length : Int)
  · skip
    repeat' (first | refine sA ?_ | with_reducible refine W_tf rfl (fun h => ?_) (fun h => ?_) | ((with_reducible first | refine hK _ ?_ | refine hK _ _ ?_); clear hK K) | ((first | refine sB ?_ | (with_reducible first | refine ops_cons (fun K hK => ?_) | refine opsd_cons (fun K hK => ?_) | refine W_reg lv5MdZ4 ?_ | refine W_drw lv5MdZ4 (by kernel_rfl) ?_) | ((with_reducible refine opsd_nil ?_); refine And.intro (by kernel_rfl) ?_) | with_reducible refine callV_snap ?_ | ((with_reducible refine call_go awkS awk_ok ?_); refine ⟨alk, _, _, awk_at , ?_⟩) | with_reducible refine And.intro (fun h => ?_) (fun h => ?_) | with_reducible refine And.intro (by omega) ?_); (try simp only [go_sem, seval, reduceCtorEq, hW, hA, hM, hC, lv5MdZ4, Tryz.ntmps5, Tryz.results5, mnxS])) | fail)
  have a1 : s.m.1.length ≤ 1000000 := by omega
  have a2 : s.m.2.1.length ≤ 1000000 := by omega
  have a3 : s.m.2.2.length ≤ 1000000 := by omega
  have a4 : s.W.length ≤ 1000000 := by omega
  have lOwF_at := lOwF_at s a1 a2 a3 a4
  have N0 := NxtF_at s x hu a1 a2 a3 a4
  obtain ⟨b1, b2, b3, b4⟩ := nxt_len (x := x) hu
  generalize (nxtF s x).1 = t at *
  generalize (nxtF s x).2 = e at *
  have C0 := Cky_at s hu a1 a2 a3 a4 rfl
  generalize sye s = E at *
  have NxtF_at : NxtFS.rel [syA s, ocA x] [] (.tup [syA t, iv e]) [] := N0
  have rNxtF_at : rNxtFS.rel [syA s, ocA x] [] (.tup [syA t, iv e]) [] := N0
  have Cky_at : CkyS.rel [syA s] [] (iv E) [] := C0
  have rCky_at : rCkyS.rel [syA s] [] (iv E) [] := C0
  repeat' (first | refine sA ?_ | with_reducible refine W_tf rfl (fun h => ?_) (fun h => ?_) | ((with_reducible first | refine hK _ ?_ | refine hK _ _ ?_); clear hK K) | ((first | refine sB ?_ | (with_reducible first | refine ops_cons (fun K hK => ?_) | refine opsd_cons (fun K hK => ?_) | refine W_reg lv5MdZ4 ?_ | refine W_drw lv5MdZ4 (by kernel_rfl) ?_) | ((with_reducible refine opsd_nil ?_); refine And.intro (by kernel_rfl) ?_) | with_reducible refine callV_snap ?_ | ((with_reducible refine call_go lOwFS lOwF_ok ?_); refine ⟨alk, _, _, lOwF_at , ?_⟩) | ((with_reducible refine call_go NxtFS NxtF_ok ?_); refine ⟨alk, _, _, NxtF_at , ?_⟩) | ((with_reducible refine call_go rNxtFS rNxtF_ok ?_); refine ⟨alk, _, _, rNxtF_at , ?_⟩) | ((with_reducible refine call_go CkyS Cky_ok ?_); refine ⟨alk, _, _, Cky_at , ?_⟩) | ((with_reducible refine call_go rCkyS rCky_ok ?_); refine ⟨alk, _, _, rCky_at , ?_⟩) | ((with_reducible refine call_go MNewFS MNewF_ok ?_); refine ⟨alk, _, _, MNewF_at , ?_⟩) | ((with_reducible refine call_go rMNewFS rMNewF_ok ?_); refine ⟨alk, _, _, rMNewF_at , ?_⟩) | ((with_reducible refine call_go samS sam_ok ?_); refine ⟨alk, _, _, sam_at sy0 (by decide) (by decide) (by decide) (by decide), ?_⟩) | ((with_reducible refine call_go samS sam_ok ?_); refine ⟨alk, _, _, sam_at t b1 b2 b3 b4, ?_⟩) | ((with_reducible refine call_go samS sam_ok ?_); refine ⟨alk, _, _, sam_at s a1 a2 a3 a4, ?_⟩) | ((with_reducible refine call_go awkS awk_ok ?_); refine ⟨alk, _, _, awk_at , ?_⟩) | with_reducible refine And.intro (fun h => ?_) (fun h => ?_) | with_reducible refine And.intro (by omega) ?_); (try simp only [go_sem, seval, reduceCtorEq, hW, hA, hM, hC, lv5MdZ4, Tryz.ntmps5, Tryz.results5, mnxS])) | fail)
  all_goals trace_state
end Go.Proofs.YtpocnjliigjidaaGreat
