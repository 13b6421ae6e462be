import Derived.Test.YtpocnjliigjidaaGreatMdM
/- ModelAllows, by the engine. -/
namespace Go.Proofs.YtpocnjliigjidaaGreat
open Go.RowKit
set_option maxRecDepth 100000
set_option linter.unusedSimpArgs false
set_option linter.unusedVariables false
abbrev lv20MdA4 : List (Nat × List Nat) := [(0, [0, 1]), (1, [0, 1, 10]), (2, [4]), (3, [0, 1, 5]), (4, [0, 1, 5, 14]), (5, [0, 1, 5]), (6, [0, 1, 5, 25]), (7, [4]), (8, [4])]
abbrev lv4MdA4 : List (Nat × List Nat) := [(0, [0]), (1, [0, 28]), (2, [2]), (3, [0, 3]), (4, [0, 3, 4, 5]), (5, [0, 3, 4, 5, 6, 7]), (6, [0, 3, 4, 5, 6, 7, 8, 9]), (7, [0, 3, 4, 5, 6, 7, 8, 9, 10, 11]), (8, [0, 3, 70]), (9, [2]), (10, [0, 3, 5, 12]), (11, [0, 3, 5, 7, 12, 13]), (12, [0, 3, 5, 7, 9, 12, 13, 14]), (13, [0, 3, 5, 7, 9, 11, 12, 13, 14, 15]), (14, [2])]
def mwL (l : List Oc) : List Int := if afE l = 0 then srP (afT l).W else []
def avL (l : List Oc) : List Int := if afE l = 0 then alvP (afT l).m.1 (afT l).m.1.length else []
theorem mwL_len (l : List Oc) : (mwL l).length ≤ 8 := by
  unfold mwL
  split
  · exact srP_len _
  · simp
theorem aft_8 (l : List Oc) : (afT l).m.1.length ≤ 8 := by
  by_cases h : afE l = 0
  · have := (aft_vs h).v.la; omega
  · have e : afT l = syZ := if_neg h
    rw [e]; decide
theorem aft_len (l : List Oc) : (afT l).m.1.length ≤ 1000000 ∧ (afT l).m.2.1.length ≤ 1000000 ∧ (afT l).m.2.2.length ≤ 1000000 ∧ (afT l).W.length ≤ 1000000 := by
  by_cases h : afE l = 0
  · obtain ⟨_, a, b, c, d, _⟩ := vs_len (aft_vs h)
    exact ⟨a, b, c, d⟩
  · have e : afT l = syZ := if_neg h
    rw [e]; exact ⟨by decide, by decide, by decide, by decide⟩
theorem avL_len (l : List Oc) : (avL l).length ≤ 8 := by
  unfold avL
  split
  · exact Nat.le_trans (alvP_len _ _) (aft_8 l)
  · simp
def mwFS : Spec := { al := true, rel := fun args ins res outs => ∃ l : List Oc, l.length ≤ 1000000 ∧ args = [ocL l] ∧ ins = [] ∧ res = .tup [dI (mwL l), iv (afE l)] ∧ outs = [] }
def avFS : Spec := { al := true, rel := fun args ins res outs => ∃ l : List Oc, l.length ≤ 1000000 ∧ args = [ocL l] ∧ ins = [] ∧ res = .tup [dI (avL l), iv (afE l)] ∧ outs = [] }
abbrev rmwFS : Spec := mwFS
abbrev ravFS : Spec := avFS
theorem mw_frz {f : FuncId} (h : Ok Tryz.prog f mwgS) : Ok Tryz.prog f mwFS := by
  refine ok_frz h mwFS rfl ?_
  rintro args ins res outs ⟨l, hl, rfl, rfl, rfl, rfl⟩
  refine ⟨rfl, rfl, _, _, ⟨l, hl, aft_vs, rfl, rfl, rfl, rfl⟩, ?_⟩
  unfold mwA mwL
  by_cases he : afE l = 0
  · rw [if_pos he, if_pos he, he]; simp [frz, frzA, frzAL, frzL, frz1, List.take_of_length_le]
  · rw [if_neg he, if_neg he]; rfl
theorem av_frz {f : FuncId} (h : Ok Tryz.prog f alvS) : Ok Tryz.prog f avFS := by
  refine ok_frz h avFS rfl ?_
  rintro args ins res outs ⟨l, hl, rfl, rfl, rfl, rfl⟩
  refine ⟨rfl, rfl, _, _, ⟨l, hl, aft_8 l, rfl, rfl, rfl, rfl⟩, ?_⟩
  unfold alvR avL
  by_cases he : afE l = 0
  · rw [if_pos he, if_pos he, he]; simp [frz, frzA, frzAL, frzL, frz1, List.take_of_length_le]
  · rw [if_neg he, if_neg he]; rfl
theorem mwF_ok : Ok Tryz.prog 15 mwFS := mw_frz mwg_ok
theorem rmwF_ok : Ok Tryz.prog 16 mwFS := mw_frz rmw_ok
theorem avF_ok : Ok Tryz.prog 17 avFS := av_frz alv_ok
theorem ravF_ok : Ok Tryz.prog 18 avFS := av_frz ralv_ok
def smoS : Spec := { rel := fun args ins res outs => ∃ a : List Oc, a.length ≤ 1000000 ∧ args = [ocL a, ocL a] ∧ ins = [] ∧ res = bv true ∧ outs = [] }
theorem smo_at (a : List Oc) (h : a.length ≤ 1000000) : smoS.rel [ocL a, ocL a] [] (bv true) [] := ⟨a, h, rfl, rfl, rfl, rfl⟩
set_option maxHeartbeats 1000000 in
theorem smo_ok : Ok Tryz.prog 20 smoS := by
  refine fn_ok smoS Tryz.func20 rfl rfl ?_
  rintro args ins res outs ⟨a, h1, rfl, rfl, rfl, rfl⟩
  refine ⟨by simp [Tryz.ntmps20], fun w0 V Bo mu0 => ?_⟩
  repeat' (first | refine sA ?_ | with_reducible refine W_tf rfl (fun h => ?_) (fun h => ?_) | ((with_reducible first | refine hK _ ?_ | refine hK _ _ ?_); clear hK K) | ((first | refine sB ?_ | (with_reducible first | refine ops_cons (fun K hK => ?_) | refine opsd_cons (fun K hK => ?_) | refine W_reg lv20MdA4 ?_ | refine W_drw lv20MdA4 (by kernel_rfl) ?_) | ((with_reducible refine opsd_nil ?_); refine And.intro (by kernel_rfl) ?_) | with_reducible refine callV_snap ?_ | with_reducible refine And.intro (fun h => ?_) (fun h => ?_) | with_reducible refine And.intro (by omega) ?_); (try simp only [go_sem, seval, reduceCtorEq, lv20MdA4, Tryz.ntmps20, Tryz.results20, smoS])) | fail)
  refine W_loop (fun i : Nat => ⟨[(0, ocL a), (1, ocL a), (5, iv (i : Int))], []⟩) (fun i => i ≤ a.length) (fun i => a.length - i) 0 (Nat.zero_le _) [] ?_ ?_
  · simp [go_sem]
  intro i hi
  by_cases hlt : i < a.length
  · have hki : (i : Int) < (a.length : Int) := by omega
    obtain ⟨x, hx⟩ : ∃ x, a[i] = x := ⟨_, rfl⟩
    have e0 : encOc a[i] = [.int .i64 x.k, .int .i64 x.p, .int .i64 x.o, .int .i64 x.g, .int .i64 x.w, .int .u64 (x.t : Int), .int .u64 (x.v : Int)] := by rw [hx]; rfl
    repeat' (first | refine sA ?_ | with_reducible refine W_tf rfl (fun h => ?_) (fun h => ?_) | ((with_reducible first | refine hK _ ?_ | refine hK _ _ ?_); clear hK K) | ((with_reducible refine And.intro eqt_oc ?_); (try simp only [go_sem, seval, reduceCtorEq])) | ((first | refine sB ?_ | (with_reducible first | refine ops_cons (fun K hK => ?_) | refine opsd_cons (fun K hK => ?_) | refine W_reg lv20MdA4 ?_ | refine W_drw lv20MdA4 (by kernel_rfl) ?_) | ((with_reducible refine opsd_nil ?_); refine And.intro (by kernel_rfl) ?_) | with_reducible refine callV_snap ?_ | with_reducible refine And.intro (fun h => ?_) (fun h => ?_) | with_reducible refine And.intro (by omega) ?_); (try simp only [go_sem, seval, reduceCtorEq, hki, e0, lv20MdA4, Tryz.ntmps20, Tryz.results20, smoS])) | fail)
    refine ⟨i + 1, [], by omega, by omega, ?_⟩
    simp [go_sem]
  · have hki : ¬ (i : Int) < (a.length : Int) := by omega
    repeat' (first | refine sA ?_ | with_reducible refine W_tf rfl (fun h => ?_) (fun h => ?_) | ((with_reducible first | refine hK _ ?_ | refine hK _ _ ?_); clear hK K) | ((first | refine sB ?_ | (with_reducible first | refine ops_cons (fun K hK => ?_) | refine opsd_cons (fun K hK => ?_) | refine W_reg lv20MdA4 ?_ | refine W_drw lv20MdA4 (by kernel_rfl) ?_) | ((with_reducible refine opsd_nil ?_); refine And.intro (by kernel_rfl) ?_) | with_reducible refine callV_snap ?_ | with_reducible refine And.intro (fun h => ?_) (fun h => ?_) | with_reducible refine And.intro (by omega) ?_); (try simp only [go_sem, seval, reduceCtorEq, hki, lv20MdA4, Tryz.ntmps20, Tryz.results20, smoS])) | fail)
def malS : Spec := { al := true, rel := fun args ins res outs => ∃ l : List Oc, args = [ocL l] ∧ ins = [] ∧ res = bv true ∧ outs = [] }
set_option maxHeartbeats 4000000 in
theorem mal_ok : Ok Tryz.prog 4 malS := by
  refine fn_ok malS Tryz.func4 rfl rfl ?_
  rintro args ins res outs ⟨l, rfl, rfl, rfl, rfl⟩
  refine ⟨by simp [Tryz.ntmps4], fun w0 V Bo mu0 => ?_⟩
  by_cases hl : l.length ≤ 5010
  case neg =>
    have q1 : (100 : Int) < (l.length : Int) := by omega
    have q2 : ¬ (l.length : Int) ≤ 5000 := by omega
    have q3 : (5010 : Int) < (l.length : Int) := by omega
    repeat' (first | refine sA ?_ | with_reducible refine W_tf rfl (fun h => ?_) (fun h => ?_) | ((with_reducible first | refine hK _ ?_ | refine hK _ _ ?_); clear hK K) | ((first | refine sB ?_ | (with_reducible first | refine ops_cons (fun K hK => ?_) | refine W_reg lv4MdA4 ?_) | with_reducible refine callV_snap ?_ | ((with_reducible refine call_go awkS awk_ok ?_); refine ⟨alk, _, _, awk_at , ?_⟩) | with_reducible refine And.intro (fun h => ?_) (fun h => ?_) | with_reducible refine And.intro (by omega) ?_); (try simp only [go_sem, seval, reduceCtorEq, q1, q2, q3, lv4MdA4, Tryz.ntmps4, Tryz.results4, malS])) | fail)
  have q3 : ¬ (5010 : Int) < (l.length : Int) := by omega
  by_cases h0 : 100 < l.length ∧ l.length ≤ 5000
  · have q1 : (100 : Int) < (l.length : Int) := by omega
    have q2 : (l.length : Int) ≤ 5000 := by omega
    repeat' (first | refine sA ?_ | with_reducible refine W_tf rfl (fun h => ?_) (fun h => ?_) | ((with_reducible first | refine hK _ ?_ | refine hK _ _ ?_); clear hK K) | ((first | refine sB ?_ | (with_reducible first | refine ops_cons (fun K hK => ?_) | refine W_reg lv4MdA4 ?_) | with_reducible refine callV_snap ?_ | ((with_reducible refine call_go awkS awk_ok ?_); refine ⟨alk, _, _, awk_at , ?_⟩) | with_reducible refine And.intro (fun h => ?_) (fun h => ?_) | with_reducible refine And.intro (by omega) ?_); (try simp only [go_sem, seval, reduceCtorEq, q1, q2, q3, lv4MdA4, Tryz.ntmps4, Tryz.results4, malS])) | fail)
  have OwoF_at := OwoF_at l (by omega)
  have smo_at := smo_at l (by omega)
  have A0 := alw_at l (by omega) (n := tlN l) (e := (trE l).1) rfl rfl
  have B0 := aftr_at l (by omega)
  have C0 : mwFS.rel [ocL l] [] (.tup [dI (mwL l), iv (afE l)]) [] := ⟨l, by omega, rfl, rfl, rfl, rfl⟩
  have D0 : avFS.rel [ocL l] [] (.tup [dI (avL l), iv (afE l)]) [] := ⟨l, by omega, rfl, rfl, rfl, rfl⟩
  obtain ⟨b1, b2, b3, b4⟩ := aft_len l
  have l1 := mwL_len l
  have l2 := avL_len l
  generalize afT l = t at *
  generalize afE l = e at *
  generalize mwL l = p at *
  generalize avL l = u at *
  generalize tlN l = n at *
  generalize (trE l).1 = d at *
  have alw_at : alwS.rel [ocL l] [] (.tup [iv (n : Int), iv d]) [] := A0
  have rAlw_at : rAlwS.rel [ocL l] [] (.tup [iv (n : Int), iv d]) [] := A0
  have aftr_at : aftrS.rel [ocL l] [] (.tup [syA t, iv e]) [] := B0
  have raftr_at : raftrS.rel [ocL l] [] (.tup [syA t, iv e]) [] := B0
  have mwF_at : mwFS.rel [ocL l] [] (.tup [dI p, iv e]) [] := C0
  have rmwF_at : rmwFS.rel [ocL l] [] (.tup [dI p, iv e]) [] := C0
  have avF_at : avFS.rel [ocL l] [] (.tup [dI u, iv e]) [] := D0
  have ravF_at : ravFS.rel [ocL l] [] (.tup [dI u, iv e]) [] := D0
  have S1 := Smi_at p p (by omega) (by omega)
  rw [decide_eq_true (rfl : p = p)] at S1
  have S2 := Smi_at u u (by omega) (by omega)
  rw [decide_eq_true (rfl : u = u)] at S2
  have Smi_at : ∀ v : List Int, v = p ∨ v = u → SmiS.rel [dI v, dI v] [] (bv true) [] := fun v h => by rcases h with rfl | rfl; exact S1; exact S2
  clear A0 B0 C0 D0 S1 S2
  by_cases h1 : l.length ≤ 100
  · have q1 : ¬ (100 : Int) < (l.length : Int) := by omega
    repeat' (first | refine sA ?_ | with_reducible refine W_tf rfl (fun h => ?_) (fun h => ?_) | ((with_reducible first | refine hK _ ?_ | refine hK _ _ ?_); clear hK K) | ((first | refine sB ?_ | (with_reducible first | refine ops_cons (fun K hK => ?_) | refine W_reg lv4MdA4 ?_) | with_reducible refine callV_snap ?_ | ((with_reducible refine call_go OwoFS OwoF_ok ?_); refine ⟨alk, _, _, OwoF_at , ?_⟩) | ((with_reducible refine call_go alwS alw_ok ?_); refine ⟨alk, _, _, alw_at , ?_⟩) | ((with_reducible refine call_go rAlwS rAlw_ok ?_); refine ⟨alk, _, _, rAlw_at , ?_⟩) | ((with_reducible refine call_go aftrS aftr_ok ?_); refine ⟨alk, _, _, aftr_at , ?_⟩) | ((with_reducible refine call_go raftrS raftr_ok ?_); refine ⟨alk, _, _, raftr_at , ?_⟩) | ((with_reducible refine call_go samS sam_ok ?_); refine ⟨alk, _, _, sam_at t b1 b2 b3 b4, ?_⟩) | ((with_reducible refine call_go mwFS mwF_ok ?_); refine ⟨alk, _, _, mwF_at , ?_⟩) | ((with_reducible refine call_go rmwFS rmwF_ok ?_); refine ⟨alk, _, _, rmwF_at , ?_⟩) | ((with_reducible refine call_go avFS avF_ok ?_); refine ⟨alk, _, _, avF_at , ?_⟩) | ((with_reducible refine call_go ravFS ravF_ok ?_); refine ⟨alk, _, _, ravF_at , ?_⟩) | ((with_reducible refine call_go SmiS Smi_ok ?_); refine ⟨alk, _, _, Smi_at p (.inl rfl), ?_⟩) | ((with_reducible refine call_go SmiS Smi_ok ?_); refine ⟨alk, _, _, Smi_at u (.inr rfl), ?_⟩) | ((with_reducible refine call_go smoS smo_ok ?_); refine ⟨alk, _, _, smo_at , ?_⟩) | ((with_reducible refine call_go awkS awk_ok ?_); refine ⟨alk, _, _, awk_at , ?_⟩) | with_reducible refine And.intro (fun h => ?_) (fun h => ?_) | with_reducible refine And.intro (by omega) ?_); (try simp only [go_sem, seval, reduceCtorEq, q1, q3, lv4MdA4, Tryz.ntmps4, Tryz.results4, malS])) | fail)
  · have q1 : (100 : Int) < (l.length : Int) := by omega
    have q2 : ¬ (l.length : Int) ≤ 5000 := by omega
    repeat' (first | refine sA ?_ | with_reducible refine W_tf rfl (fun h => ?_) (fun h => ?_) | ((with_reducible first | refine hK _ ?_ | refine hK _ _ ?_); clear hK K) | ((first | refine sB ?_ | (with_reducible first | refine ops_cons (fun K hK => ?_) | refine W_reg lv4MdA4 ?_) | with_reducible refine callV_snap ?_ | ((with_reducible refine call_go OwoFS OwoF_ok ?_); refine ⟨alk, _, _, OwoF_at , ?_⟩) | ((with_reducible refine call_go alwS alw_ok ?_); refine ⟨alk, _, _, alw_at , ?_⟩) | ((with_reducible refine call_go rAlwS rAlw_ok ?_); refine ⟨alk, _, _, rAlw_at , ?_⟩) | ((with_reducible refine call_go aftrS aftr_ok ?_); refine ⟨alk, _, _, aftr_at , ?_⟩) | ((with_reducible refine call_go raftrS raftr_ok ?_); refine ⟨alk, _, _, raftr_at , ?_⟩) | ((with_reducible refine call_go samS sam_ok ?_); refine ⟨alk, _, _, sam_at t b1 b2 b3 b4, ?_⟩) | ((with_reducible refine call_go mwFS mwF_ok ?_); refine ⟨alk, _, _, mwF_at , ?_⟩) | ((with_reducible refine call_go rmwFS rmwF_ok ?_); refine ⟨alk, _, _, rmwF_at , ?_⟩) | ((with_reducible refine call_go avFS avF_ok ?_); refine ⟨alk, _, _, avF_at , ?_⟩) | ((with_reducible refine call_go ravFS ravF_ok ?_); refine ⟨alk, _, _, ravF_at , ?_⟩) | ((with_reducible refine call_go SmiS Smi_ok ?_); refine ⟨alk, _, _, Smi_at p (.inl rfl), ?_⟩) | ((with_reducible refine call_go SmiS Smi_ok ?_); refine ⟨alk, _, _, Smi_at u (.inr rfl), ?_⟩) | ((with_reducible refine call_go smoS smo_ok ?_); refine ⟨alk, _, _, smo_at , ?_⟩) | ((with_reducible refine call_go awkS awk_ok ?_); refine ⟨alk, _, _, awk_at , ?_⟩) | with_reducible refine And.intro (fun h => ?_) (fun h => ?_) | with_reducible refine And.intro (by omega) ?_); (try simp only [go_sem, seval, reduceCtorEq, q1, q2, q3, lv4MdA4, Tryz.ntmps4, Tryz.results4, malS])) | fail)
  all_goals trace_state
end Go.Proofs.YtpocnjliigjidaaGreat
