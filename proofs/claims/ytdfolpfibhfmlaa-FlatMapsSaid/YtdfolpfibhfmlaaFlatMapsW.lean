/- A flat memory: FlatMaps, by the engine. -/
import Derived.Test.YtdfolpfibhfmlaaFlAM
namespace Go.Proofs.Ytdfolpfibhfmlaa
open Go.RowKit
set_option maxRecDepth 100000
set_option linter.unusedSimpArgs false
set_option linter.unusedVariables false

abbrev lv6FlatMapsW : List (Nat × List Nat) := [(0, [1, 2, 3, 4]), (1, [1, 2, 3, 4, 16]), (2, [8]), (3, [1, 2, 3, 4, 9]), (4, [1, 2, 3, 4, 9, 10, 11]), (5, [1, 2, 3, 4, 9, 10, 11, 12, 13]), (6, [1, 2, 3, 4, 9, 10, 12, 46]), (7, [8]), (8, [1, 2, 3, 4, 9, 10, 11, 12]), (9, [1, 2, 3, 4, 9, 10, 11, 12, 13]), (10, [1, 2, 3, 4, 9, 10, 12, 67]), (11, [8]), (12, [1, 2, 3, 4, 9, 10, 11, 12]), (13, [1, 2, 3, 4, 9, 10, 11, 12, 13]), (14, [1, 2, 3, 4, 9, 10, 12, 92]), (15, [8]), (16, [1, 2, 3, 4, 9, 10, 11, 12]), (17, [1, 3, 4, 9, 10, 11, 12, 13]), (18, [1, 3, 4, 9, 10, 12, 117]), (19, [8]), (20, [1, 3, 4, 9, 10, 11, 12]), (21, [4, 9, 10, 11, 12, 13]), (22, [8])]
abbrev rkNewS : Spec := rNewFS
theorem rkNew_ok : Ok Try.prog 32 rkNewS := rNewF_ok
theorem rkNew_at : rkNewS.rel [] [] (fm ka0 km0 kc0) [] := rNewF_at
def msS : Spec := { al := true, rel := fun args ins res outs => ∃ (al : List Bool) (mp : List Nat) (cs : List Cl) (p f t : Int), U64 mp ∧ args = [fm al mp cs, iv p, iv f, iv t] ∧ ins = [] ∧ res = bv true ∧ outs = [] }
set_option maxHeartbeats 8000000 in
theorem ms_ok : Ok Try.prog 6 msS := by
  refine fn_ok msS Try.func6 rfl rfl ?_
  rintro args ins res outs ⟨al, mp, cs, p, f, t, hu, rfl, rfl, rfl, rfl⟩
  refine ⟨by simp [Try.ntmps6], fun w0 V Bo mu0 => ?_⟩
  cases hl : lit al mp cs with
  | false =>
    repeat' (first
      | (with_reducible first | refine W_seq ?_ | refine W_condT rfl ?_ | refine W_condF rfl ?_ | refine W_tf rfl (fun h => ?_) (fun h => ?_) | refine endQ_ret ?_ | refine endQ_normal ?_)
      | ((with_reducible first | refine hK _ ?_ | refine hK _ _ ?_); clear hK K)
      | ((first | (with_reducible first | refine ops_cons (fun K hK => ?_) | refine ops_nil ?_) | with_reducible refine callV_snap ?_ | ((with_reducible refine call_go litS lit_ok ?_); refine ⟨(by first | exact alOk_nil _ | exact alOk_f rfl), _, _, lit_at al mp cs, ?_⟩) | ((with_reducible refine call_go awkS awk_ok ?_); refine ⟨(by first | exact alOk_nil _ | exact alOk_f rfl), _, _, awk_at , ?_⟩) | (with_reducible first | refine W_reg lv6FlatMapsW ?_ | refine W_skip ?_ | refine W_ret ?_ | refine end_at0 ?_) | (with_reducible refine And.intro (fun h => ?_) (fun h => ?_)) | (with_reducible refine And.intro (by omega) ?_)); (try simp only [go_sem, seval, reduceCtorEq, hl, lv6FlatMapsW, Try.ntmps6, Try.results6, msS]))
      | fail)
  | true =>
    obtain ⟨h1, h2, h3⟩ := of_decide_eq_true hl
    have hf0 := spn_fits al mp cs p
    have W0 := SpnF_at al mp cs p hu (by omega) (by omega) (by omega)
    generalize spnF al mp cs p = R0 at *
    obtain ⟨⟨A0, M0, C0⟩, e0⟩ := R0
    obtain ⟨fa0, fb0, fc0⟩ := hf0
    dsimp only at fa0 fb0 fc0
    have SpnF_at : SpnFS.rel [fm al mp cs, iv p] [] (.tup [fm A0 M0 C0, iv e0]) [] := W0
    have rSpnF_at : rSpnFS.rel [fm al mp cs, iv p] [] (.tup [fm A0 M0 C0, iv e0]) [] := W0
    have hf1 := ext_fits al mp cs p
    have W1 := ExtF_at al mp cs p hu (by omega) (by omega) (by omega)
    generalize extF al mp cs p = R1 at *
    obtain ⟨⟨A1, M1, C1⟩, e1⟩ := R1
    obtain ⟨fa1, fb1, fc1⟩ := hf1
    dsimp only at fa1 fb1 fc1
    have ExtF_at : ExtFS.rel [fm al mp cs, iv p] [] (.tup [fm A1 M1 C1, iv e1]) [] := W1
    have rExtF_at : rExtFS.rel [fm al mp cs, iv p] [] (.tup [fm A1 M1 C1, iv e1]) [] := W1
    have hf2 := map_fits al mp cs p f t
    have W2 := MapF_at al mp cs p f t hu (by omega) (by omega) (by omega)
    generalize mapF al mp cs p f t = R2 at *
    obtain ⟨⟨A2, M2, C2⟩, e2⟩ := R2
    obtain ⟨fa2, fb2, fc2⟩ := hf2
    dsimp only at fa2 fb2 fc2
    have MapF_at : MapFS.rel [fm al mp cs, iv p, iv f, iv t] [] (.tup [fm A2 M2 C2, iv e2]) [] := W2
    have rMapF_at : rMapFS.rel [fm al mp cs, iv p, iv f, iv t] [] (.tup [fm A2 M2 C2, iv e2]) [] := W2
    have hf3 := unm_fits al mp cs p f t
    have W3 := UnmF_at al mp cs p f t hu (by omega) (by omega) (by omega)
    generalize unmF al mp cs p f t = R3 at *
    obtain ⟨⟨A3, M3, C3⟩, e3⟩ := R3
    obtain ⟨fa3, fb3, fc3⟩ := hf3
    dsimp only at fa3 fb3 fc3
    have UnmF_at : UnmFS.rel [fm al mp cs, iv p, iv f, iv t] [] (.tup [fm A3 M3 C3, iv e3]) [] := W3
    have rUnmF_at : rUnmFS.rel [fm al mp cs, iv p, iv f, iv t] [] (.tup [fm A3 M3 C3, iv e3]) [] := W3
    have hf4 := frk_fits al mp cs p t
    have W4 := FrkF_at al mp cs p t hu (by omega) (by omega) (by omega)
    generalize frkF al mp cs p t = R4 at *
    obtain ⟨⟨A4, M4, C4⟩, e4⟩ := R4
    obtain ⟨fa4, fb4, fc4⟩ := hf4
    dsimp only at fa4 fb4 fc4
    have FrkF_at : FrkFS.rel [fm al mp cs, iv p, iv t] [] (.tup [fm A4 M4 C4, iv e4]) [] := W4
    have rFrkF_at : rFrkFS.rel [fm al mp cs, iv p, iv t] [] (.tup [fm A4 M4 C4, iv e4]) [] := W4
    repeat' (first
      | (with_reducible first | refine W_seq ?_ | refine W_condT rfl ?_ | refine W_condF rfl ?_ | refine W_tf rfl (fun h => ?_) (fun h => ?_) | refine endQ_ret ?_ | refine endQ_normal ?_)
      | ((with_reducible first | refine hK _ ?_ | refine hK _ _ ?_); clear hK K)
      | ((first | (with_reducible first | refine ops_cons (fun K hK => ?_) | refine ops_nil ?_) | with_reducible refine callV_snap ?_ | ((with_reducible refine call_go litS lit_ok ?_); refine ⟨(by first | exact alOk_nil _ | exact alOk_f rfl), _, _, lit_at al mp cs, ?_⟩) | ((with_reducible refine call_go awkS awk_ok ?_); refine ⟨(by first | exact alOk_nil _ | exact alOk_f rfl), _, _, awk_at , ?_⟩) | ((with_reducible refine call_go OwfFS OwfF_ok ?_); refine ⟨(by first | exact alOk_nil _ | exact alOk_f rfl), _, _, OwfF_at al mp cs (by omega) (by omega) (by omega), ?_⟩) | ((with_reducible refine call_go SpnFS SpnF_ok ?_); refine ⟨(by first | exact alOk_nil _ | exact alOk_f rfl), _, _, SpnF_at , ?_⟩) | ((with_reducible refine call_go rSpnFS rSpnF_ok ?_); refine ⟨(by first | exact alOk_nil _ | exact alOk_f rfl), _, _, rSpnF_at , ?_⟩) | ((with_reducible refine call_go SmfRS SmfR_ok ?_); refine ⟨(by first | exact alOk_nil _ | exact alOk_f rfl), _, _, SmfR_at A0 M0 C0 (by omega) (by omega) (by omega), ?_⟩) | ((with_reducible refine call_go ExtFS ExtF_ok ?_); refine ⟨(by first | exact alOk_nil _ | exact alOk_f rfl), _, _, ExtF_at , ?_⟩) | ((with_reducible refine call_go rExtFS rExtF_ok ?_); refine ⟨(by first | exact alOk_nil _ | exact alOk_f rfl), _, _, rExtF_at , ?_⟩) | ((with_reducible refine call_go SmfRS SmfR_ok ?_); refine ⟨(by first | exact alOk_nil _ | exact alOk_f rfl), _, _, SmfR_at A1 M1 C1 (by omega) (by omega) (by omega), ?_⟩) | ((with_reducible refine call_go MapFS MapF_ok ?_); refine ⟨(by first | exact alOk_nil _ | exact alOk_f rfl), _, _, MapF_at , ?_⟩) | ((with_reducible refine call_go rMapFS rMapF_ok ?_); refine ⟨(by first | exact alOk_nil _ | exact alOk_f rfl), _, _, rMapF_at , ?_⟩) | ((with_reducible refine call_go SmfRS SmfR_ok ?_); refine ⟨(by first | exact alOk_nil _ | exact alOk_f rfl), _, _, SmfR_at A2 M2 C2 (by omega) (by omega) (by omega), ?_⟩) | ((with_reducible refine call_go UnmFS UnmF_ok ?_); refine ⟨(by first | exact alOk_nil _ | exact alOk_f rfl), _, _, UnmF_at , ?_⟩) | ((with_reducible refine call_go rUnmFS rUnmF_ok ?_); refine ⟨(by first | exact alOk_nil _ | exact alOk_f rfl), _, _, rUnmF_at , ?_⟩) | ((with_reducible refine call_go SmfRS SmfR_ok ?_); refine ⟨(by first | exact alOk_nil _ | exact alOk_f rfl), _, _, SmfR_at A3 M3 C3 (by omega) (by omega) (by omega), ?_⟩) | ((with_reducible refine call_go FrkFS FrkF_ok ?_); refine ⟨(by first | exact alOk_nil _ | exact alOk_f rfl), _, _, FrkF_at , ?_⟩) | ((with_reducible refine call_go rFrkFS rFrkF_ok ?_); refine ⟨(by first | exact alOk_nil _ | exact alOk_f rfl), _, _, rFrkF_at , ?_⟩) | ((with_reducible refine call_go SmfRS SmfR_ok ?_); refine ⟨(by first | exact alOk_nil _ | exact alOk_f rfl), _, _, SmfR_at A4 M4 C4 (by omega) (by omega) (by omega), ?_⟩) | ((with_reducible refine call_go kNewS kNew_ok ?_); refine ⟨(by first | exact alOk_nil _ | exact alOk_f rfl), _, _, kNew_at , ?_⟩) | ((with_reducible refine call_go rkNewS rkNew_ok ?_); refine ⟨(by first | exact alOk_nil _ | exact alOk_f rfl), _, _, rkNew_at , ?_⟩) | ((with_reducible refine call_go SmfRS SmfR_ok ?_); refine ⟨(by first | exact alOk_nil _ | exact alOk_f rfl), _, _, SmfR_at ka0 km0 kc0 (by decide) (by decide) (by decide), ?_⟩) | ((with_reducible refine call_go SmfRS SmfR_ok ?_); refine ⟨(by first | exact alOk_nil _ | exact alOk_f rfl), _, _, SmfR_at al mp cs (by omega) (by omega) (by omega), ?_⟩) | (with_reducible first | refine W_reg lv6FlatMapsW ?_ | refine W_skip ?_ | refine W_ret ?_ | refine end_at0 ?_) | (with_reducible refine And.intro (fun h => ?_) (fun h => ?_)) | (with_reducible refine And.intro (by omega) ?_)); (try simp only [go_sem, seval, reduceCtorEq, hl, lv6FlatMapsW, Try.ntmps6, Try.results6, msS]))
      | fail)
end Go.Proofs.Ytdfolpfibhfmlaa
