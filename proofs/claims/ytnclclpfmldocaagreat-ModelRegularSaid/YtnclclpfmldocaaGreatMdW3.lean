/- Who waits behind a trace, by ascending tickets; ModelRegular. -/
import Derived.Test.YtnclclpfmldocaaGreatMdW1
import Derived.Test.YtnclclpfmldocaaGreatMdW2
import Derived.Test.YtnclclpfmldocaaGreatMdM
namespace Go.Proofs.YtnclclpfmldocaaGreat
open Go.RowKit
set_option maxRecDepth 100000
set_option linter.unusedSimpArgs false
set_option linter.unusedVariables false

abbrev lv20MdW3 : List (Nat × List Nat) := [(0, [0]), (1, [4, 5]), (2, [4, 5, 16]), (3, [2, 3]), (4, [4, 6]), (5, [4, 6, 7]), (6, [6, 7, 20, 21, 22]), (7, [6, 7, 20, 21, 22, 23]), (8, [6, 7, 8, 9, 20, 21, 22]), (9, [6, 7, 8, 9, 20, 21, 22, 28]), (10, [6, 7, 8, 20, 21, 22]), (11, [6, 7, 20, 21, 22]), (12, [6, 7, 20, 21, 22]), (13, [7]), (14, [2, 3])]
abbrev lv7MdW3 : List (Nat × List Nat) := [(0, [0]), (1, [3, 4, 5]), (2, [3, 4, 5, 6, 7]), (3, [3, 4, 5, 6, 7, 8, 9]), (4, [3, 4, 5, 6, 7, 8, 9, 10, 11]), (5, [4, 8, 10, 66]), (6, [2]), (7, [4, 8, 10, 12]), (8, [4, 8, 10, 12, 70]), (9, [4, 8, 10, 12]), (10, [4, 8, 10, 12, 100]), (11, [2]), (12, [2])]
/-- the map of tickets, of the first i processes -/
def opT (W : List Nat) : Nat → List Pe
  | 0 => []
  | i + 1 => opT W i ++ if W[i]?.getD 0 = 0 then [] else [((i : Int) + 1, W[i]?.getD 0, (opT W i).length)]
theorem opT_get (W : List Nat) (k : Nat) : ∀ i, pget (opT W i) ((k : Int) + 1) = if k < i ∧ W[k]?.getD 0 ≠ 0 then some (W[k]?.getD 0) else none
  | 0 => by rw [if_neg (by omega)]; rfl
  | i + 1 => by
    rw [opT]
    by_cases h0 : W[i]?.getD 0 = 0
    · rw [if_pos h0, List.append_nil, opT_get W k i]
      by_cases hk : k = i
      · subst hk; rw [if_neg (by omega), if_neg (fun h => h.2 h0)]
      · by_cases hc : k < i ∧ W[k]?.getD 0 ≠ 0
        · rw [if_pos hc, if_pos ⟨by omega, hc.2⟩]
        · rw [if_neg hc, if_neg (fun h => hc ⟨by omega, h.2⟩)]
    · rw [if_neg h0, pget_app, opT_get W k i]
      show (if k < i ∧ W[k]?.getD 0 ≠ 0 then some (W[k]?.getD 0) else none : Option Nat).or (if (k : Int) + 1 = (i : Int) + 1 then some (W[i]?.getD 0) else none) = _
      by_cases hk : k = i
      · subst hk; rw [if_neg (by omega), if_pos rfl, if_pos ⟨by omega, h0⟩]; rfl
      · rw [if_neg (show ¬ (k : Int) + 1 = (i : Int) + 1 by omega)]
        by_cases hc : k < i ∧ W[k]?.getD 0 ≠ 0
        · rw [if_pos hc, if_pos ⟨by omega, hc.2⟩]; rfl
        · rw [if_neg hc, if_neg (fun h => hc ⟨by omega, h.2⟩)]; rfl
def srP (W : List Nat) : List Int := (wtP W 8).mergeSort fun a b => decide (tkO2 W a ≤ tkO2 W b)
theorem srP_perm (W : List Nat) : (srP W).Perm (wtP W 8) := List.mergeSort_perm _ _
theorem srP_le (W : List Nat) : (srP W).Pairwise fun a b => ¬ tkO2 W b < tkO2 W a := by
  have := List.pairwise_mergeSort (le := fun a b => decide (tkO2 W a ≤ tkO2 W b)) (fun a b c h1 h2 => by simp at *; omega) (fun a b => by simp; omega) (wtP W 8)
  refine this.imp fun {a b} h => ?_
  simp only [decide_eq_true_eq] at h
  omega
theorem srP_lt {s : Sy} (hs : Vs s) : (srP s.W).Pairwise fun a b => mT (opT s.W 8) a < mT (opT s.W 8) b := by
  have hmem : ∀ p ∈ srP s.W, ∃ k : Nat, k < 8 ∧ p = (k : Int) + 1 ∧ s.W[k]?.getD 0 ≠ 0 := fun p hp' => wtP_mem.1 ((srP_perm s.W).mem_iff.1 hp')
  have hnd : (srP s.W).Nodup := (srP_perm s.W).nodup_iff.2 (wtP_nodup _ _)
  have htk : ∀ k : Nat, tkO2 s.W ((k : Int) + 1) = s.W[k]?.getD 0 := fun k => by unfold tkO2; rw [show ((k : Int) + 1 - 1).toNat = k by omega]
  refine List.Pairwise.imp_of_mem (fun {x y} hx hy hxy => ?_) ((srP_le s.W).and hnd)
  obtain ⟨k, k1, rfl, k3⟩ := hmem x hx
  obtain ⟨j, j1, rfl, j3⟩ := hmem y hy
  rw [htk, htk] at hxy
  have hkj : k ≠ j := fun e => hxy.2 (by rw [e])
  have := hs.ne k j hkj k3
  unfold mT
  rw [opT_get, opT_get, if_pos ⟨k1, k3⟩, if_pos ⟨j1, j3⟩]
  simp only [Option.getD_some]
  omega
theorem run_tell {l : List Oc} {t : Sy} (hr : run sy0 l = some t) (hv : ∀ x ∈ l, ocE x = 0) (hl : l.length ≤ 5000) : trE l = (0, 0) ∧ afE l = 0 ∧ afT l = t := by
  have e1 := trE_zero hl hv
  have e2 := wk_run hr
  have e3 : tlN l = l.length := by unfold tlN; rw [e1, e2]; rfl
  have e4 : afE l = 0 := by unfold afE; rw [e1, e3, if_neg (by omega)]
  refine ⟨e1, e4, ?_⟩
  unfold afT tlS
  rw [if_pos e4, e1, e2]
  rfl
def mwtS : Spec := { rel := fun args ins res outs => ∃ (l : List Oc) (t : Sy), run sy0 l = some t ∧ (∀ x ∈ l, ocE x = 0) ∧ l.length ≤ 1000 ∧ args = [ocL l] ∧ ins = [] ∧ res = .tup [.row 0 1 0 (srP t.W).length, iv 0] ∧ outs = [.rows 3 1 ((srP t.W).map encDI)] }
theorem mwt_at (l : List Oc) (t : Sy) (h1 : run sy0 l = some t) (h2 : ∀ x ∈ l, ocE x = 0) (h3 : l.length ≤ 1000) : mwtS.rel [ocL l] [] (.tup [.row 0 1 0 (srP t.W).length, iv 0]) [.rows 3 1 ((srP t.W).map encDI)] := ⟨l, t, h1, h2, h3, rfl, rfl, rfl, rfl⟩
set_option maxHeartbeats 4000000 in
theorem mwt_ok : Ok Tryz.prog 20 mwtS := by
  refine fn_ok mwtS Tryz.func20 rfl rfl ?_
  rintro args ins res outs ⟨l, t, hr, hv, hl, rfl, rfl, rfl, rfl⟩
  refine ⟨by simp [Tryz.ntmps20], fun w0 V Bo mu0 => ?_⟩
  obtain ⟨t1, t2, t3⟩ := run_tell hr hv (by omega)
  have hvs : Vs t := run_vs sy0_vs hv hr
  have A0 := aftr_at l (by omega)
  rw [t2, t3] at A0
  have aftr_at : aftrS.rel [ocL l] [] (.tup [syA t, iv 0]) [] := A0
  have hlt8 := srP_lt hvs
  have hper := srP_perm t.W
  have hW8 := hvs.lw
  clear A0 t1 t2 t3 hr hv
  repeat' (first
    | (with_reducible first | refine W_seq ?_ | refine W_condT rfl ?_ | refine W_condF rfl ?_ | refine W_tf rfl (fun h => ?_) (fun h => ?_) | refine W_block ?_ | refine endQ_ret ?_ | refine endQ_normal ?_)
    | ((with_reducible first | refine hK _ ?_ | refine hK _ _ ?_); clear hK K)
    | ((refine ext_imake rfl ?_ rfl ?_) <;> simp only [go_sem, seval, reduceCtorEq])
    | ((first | (with_reducible first | refine ops_cons (fun K hK => ?_) | refine ops_nil ?_ | refine fit_i64 (by omega) ?_ | refine fit_any ?_) | with_reducible refine callV_snap ?_ | ((with_reducible refine call_go aftrS aftr_ok ?_); refine ⟨(by first | exact alOk_nil _ | exact alOk_f rfl), _, _, aftr_at , ?_⟩) | (with_reducible first | refine slice_old ?_ | refine app_grow ?_ | refine idx_map (by omega) ?_ | refine W_reg lv20MdW3 ?_ | refine W_skip ?_ | refine W_exit ?_ | refine W_ret ?_ | refine end_at0 ?_) | (with_reducible refine And.intro (fun h => ?_) (fun h => ?_)) | (with_reducible refine And.intro (by omega) ?_)); (try simp only [go_sem, seval, reduceCtorEq, lv20MdW3, Tryz.ntmps20, Tryz.results20, mwtS]))
    | fail)
  refine W_adopt 7 3 1 (by decide) (by simp [go_sem]) ?_
  obtain ⟨W, hWe⟩ : ∃ W, t.W = W := ⟨_, rfl⟩
  rw [hWe] at hlt8 hper hW8
  rw [hWe]
  refine W_loop (fun i : Nat => ⟨[(6, .ptr 1 0), (7, .row 0 1 0 (wtP W i).length), (20, .d (.sl (W.map encU))), (21, iv (W.length : Int)), (22, iv (i : Int))], [some (.rows 3 1 ((wtP W i).map encDI)), some mvB, some (imO ((opT W i).map puE) (opT W i).length)]⟩) (fun i => i ≤ W.length) (fun i => W.length - i) 0 (Nat.zero_le _) [3, 2, 1] ?_ ?_
  · simp [go_sem, wtP, opT]
  intro i hi
  have hlen := wtP_len W i
  by_cases hlt : i < W.length
  case neg =>
    obtain rfl : i = 8 := by omega
    have hki : ¬ (8 : Int) < (W.length : Int) := by omega
    have hsl : (srP W).length = (wtP W 8).length := hper.length_eq
    have srt_at := srt_at (wtP W 8) (srP W) (opT W 8) (opT W 8).length (by omega) hper hlt8
    generalize wtP W 8 = L at *
    generalize srP W = Q at *
    generalize (opT W 8).length = ck at *
    generalize opT W 8 = op at *
    repeat' (first
      | (with_reducible first | refine W_seq ?_ | refine W_condT rfl ?_ | refine W_condF rfl ?_ | refine W_tf rfl (fun h => ?_) (fun h => ?_) | refine W_block ?_ | refine endQ_ret ?_ | refine endQ_normal ?_)
      | ((with_reducible first | refine hK _ ?_ | refine hK _ _ ?_); clear hK K)
      | ((first | (with_reducible first | refine ops_cons (fun K hK => ?_) | refine ops_nil ?_ | refine fit_i64 (by omega) ?_ | refine fit_any ?_) | ((with_reducible refine callV_lend srtS [0,1,2] srt_ok rfl ?_); simp only [go_sem, seval, reduceCtorEq, hki, decide_true, Bool.and_self, lv20MdW3]; refine ⟨(by first | exact alOk_nil _ | exact alOk_f rfl), rfl, _, _, srt_at , ?_⟩) | with_reducible refine callV_snap ?_ | (with_reducible first | refine slice_old ?_ | refine app_grow ?_ | refine idx_map (by omega) ?_ | refine W_reg lv20MdW3 ?_ | refine W_skip ?_ | refine W_exit ?_ | refine end_at0 ?_) | (with_reducible refine And.intro (fun h => ?_) (fun h => ?_)) | (with_reducible refine And.intro (by omega) ?_)); (try simp only [go_sem, seval, reduceCtorEq, hki, decide_true, Bool.and_self, lv20MdW3, srtS, Tryz.ntmps20, Tryz.results20, mwtS]))
      | fail)
    refine W_ret (endQ_ret (end_at [0] ?_))
    have := encI.flat Q
    simp [go_sem, Tryz.results20, mwtS, hsl]
    simpa [flatD] using this
  have hki : (i : Int) < W.length := by omega
  have e0 : encU W[i] = [.int .u64 (W[i] : Int)] := rfl
  have e2 : W[i]?.getD 0 = W[i] := by simp [hlt]
  have hs : wtP W (i + 1) = wtP W i ++ if W[i] = 0 then [] else [(i : Int) + 1] := by rw [wtP, e2]
  have ho : opT W (i + 1) = opT W i ++ if W[i] = 0 then [] else [((i : Int) + 1, W[i], (opT W i).length)] := by rw [opT, e2]
  by_cases hw : W[i] = 0
  · have hw' : (W[i] : Int) = 0 := by omega
    rw [if_pos hw, List.append_nil] at hs ho
    repeat' (first
      | (with_reducible first | refine W_seq ?_ | refine W_condT rfl ?_ | refine W_condF rfl ?_ | refine W_tf rfl (fun h => ?_) (fun h => ?_) | refine W_block ?_ | refine endQ_ret ?_ | refine endQ_normal ?_)
      | ((with_reducible first | refine hK _ ?_ | refine hK _ _ ?_); clear hK K)
      | ((first | (with_reducible first | refine ops_cons (fun K hK => ?_) | refine ops_nil ?_ | refine fit_i64 (by omega) ?_ | refine fit_any ?_) | with_reducible refine callV_snap ?_ | (with_reducible first | refine slice_old ?_ | refine app_grow ?_ | refine idx_map (by omega) ?_ | refine W_reg lv20MdW3 ?_ | refine W_skip ?_ | refine W_exit ?_ | refine W_ret ?_ | refine end_at0 ?_) | (with_reducible refine And.intro (fun h => ?_) (fun h => ?_)) | (with_reducible refine And.intro (by omega) ?_)); (try simp only [go_sem, seval, reduceCtorEq, hki, e0, hw', lv20MdW3, Tryz.ntmps20, Tryz.results20, mwtS]))
      | fail)
    refine ⟨i + 1, [0, 1, 2], by omega, by omega, ?_⟩
    simp only [hs, ho]
    simp [go_sem]
  · have hw' : ¬ (W[i] : Int) = 0 := by omega
    rw [if_neg hw] at hs ho
    have hg : pget (opT W i) ((i : Int) + 1) = none := by rw [opT_get, if_neg (by omega)]
    have ip := iput_pu hg (opT W i).length W[i]
    repeat' (first
      | (with_reducible first | refine W_seq ?_ | refine W_condT rfl ?_ | refine W_condF rfl ?_ | refine W_tf rfl (fun h => ?_) (fun h => ?_) | refine W_block ?_ | refine endQ_ret ?_ | refine endQ_normal ?_)
      | ((with_reducible first | refine hK _ ?_ | refine hK _ _ ?_); clear hK K)
      | ((refine ext_iput (.inl rfl) rfl rfl rfl rfl rfl (only_int _ _) rfl ?_); simp only [go_sem, seval, reduceCtorEq, ip])
      | ((first | (with_reducible first | refine ops_cons (fun K hK => ?_) | refine ops_nil ?_ | refine fit_i64 (by omega) ?_ | refine fit_any ?_) | with_reducible refine callV_snap ?_ | (with_reducible first | refine slice_old ?_ | refine app_grow ?_ | refine idx_map (by omega) ?_ | refine W_reg lv20MdW3 ?_ | refine W_skip ?_ | refine W_exit ?_ | refine W_ret ?_ | refine end_at0 ?_) | (with_reducible refine And.intro (fun h => ?_) (fun h => ?_)) | (with_reducible refine And.intro (by omega) ?_)); (try simp only [go_sem, seval, reduceCtorEq, hki, e0, hw', lv20MdW3, Tryz.ntmps20, Tryz.results20, mwtS]))
      | fail)
    refine ⟨i + 1, [4, 1, 2], by omega, by omega, ?_⟩
    simp only [hs, ho]
    simp [go_sem, encDI]
def rgS : Spec := { al := true, rel := fun args ins res outs => ∃ l : List Int, args = [dI l] ∧ ins = [] ∧ res = bv true ∧ outs = [] }
set_option maxHeartbeats 4000000 in
theorem rg_ok : Ok Tryz.prog 7 rgS := by
  refine fn_ok rgS Tryz.func7 rfl rfl ?_
  rintro args ins res outs ⟨l, rfl, rfl, rfl, rfl⟩
  refine ⟨by simp [Tryz.ntmps7], fun w0 V Bo mu0 => ?_⟩
  have M0 := madeF_at l 60 0 true (by decide) (by decide)
  obtain ⟨hM, hMl, _⟩ := mk_mad 0 true (l.take 60)
  have h60 : (madO 0 true (l.take 60)).1.length ≤ 60 := by rw [List.length_take] at hMl; omega
  generalize madO 0 true (l.take 60) = a at *
  have madeF_at : madeFS.rel [dI l, iv 60, iv 0, bv true] [] (.tup [ocL a.1, syA a.2, bv true]) [] := M0
  have reg_at := reg_at a.1 a.2 hM.r hM.o (by omega)
  have tWt_at := tWt_at a.1 a.2 hM.r hM.o (by omega)
  have mwt_at := mwt_at a.1 a.2 hM.r hM.o (by omega)
  obtain ⟨u, hu, hur, hF, _⟩ := fo_all hM.r hM.o a.1.length (Nat.le_refl _)
  rw [List.take_length, hM.r] at hur
  injection hur with hur
  subst hur
  obtain ⟨hPT, hP8⟩ := regular hF hu (srP_perm _) (srP_le _)
  have hW8 := hM.v.lw
  have hPl : (srP a.2.W).length ≤ 8 := by rw [(srP_perm a.2.W).length_eq]; exact wtP_len _ _
  generalize tkW2 (foG a.1 a.1.length) = T at *
  have hTl : T.length = (srP a.2.W).length := by rw [← hPT, List.length_map]
  have hTi : ∀ i (h1 : i < (srP a.2.W).length) (h2 : i < T.length), T[i] = tkO2 a.2.W (srP a.2.W)[i] := fun i h1 h2 => by
    have : (((srP a.2.W).map (tkO2 a.2.W))[i]'(by simpa using h1)) = T[i] := by congr 1
    rw [← this, List.getElem_map]
  generalize srP a.2.W = P at *
  have hTl' : (T.length : Int) = (P.length : Int) := by omega
  have hW8' : (a.2.W.length : Int) = 8 := by omega
  clear M0 hM hMl hF hu hPT
  repeat' (first
    | (with_reducible first | refine W_seq ?_ | refine W_condT rfl ?_ | refine W_condF rfl ?_ | refine W_tf rfl (fun h => ?_) (fun h => ?_) | refine W_block ?_ | refine endQ_ret ?_ | refine endQ_normal ?_)
    | ((with_reducible first | refine hK _ ?_ | refine hK _ _ ?_); clear hK K)
    | ((first | (with_reducible first | refine ops_cons (fun K hK => ?_) | refine opsd_cons (fun K hK => ?_) | refine ops_nil ?_ | refine fit_i64 (by omega) ?_ | refine fit_any ?_) | ((with_reducible refine opsd_nil ?_); refine And.intro (by kernel_rfl) ?_) | with_reducible refine callV_snap ?_ | ((with_reducible refine call_go madeFS madeF_ok ?_); refine ⟨(by first | exact alOk_nil _ | exact alOk_f rfl), _, _, madeF_at , ?_⟩) | ((with_reducible refine call_go regS reg_ok ?_); refine ⟨(by first | exact alOk_nil _ | exact alOk_f rfl), _, _, reg_at , ?_⟩) | ((with_reducible refine call_go tWtS tWt_ok ?_); refine ⟨(by first | exact alOk_nil _ | exact alOk_f rfl), _, _, tWt_at , ?_⟩) | ((with_reducible refine call_go mwtS mwt_ok ?_); refine ⟨(by first | exact alOk_nil _ | exact alOk_f rfl), _, _, mwt_at , ?_⟩) | (with_reducible first | refine idx_map (by omega) ?_ | refine W_reg lv7MdW3 ?_ | refine W_drw lv7MdW3 (by kernel_rfl) ?_ | refine W_skip ?_ | refine W_exit ?_ | refine W_ret ?_ | refine end_at0 ?_) | (with_reducible refine And.intro (fun h => ?_) (fun h => ?_)) | (with_reducible refine And.intro (by omega) ?_)); (try simp only [go_sem, seval, reduceCtorEq, hTl', hW8', lv7MdW3, Tryz.ntmps7, Tryz.results7, rgS]))
    | fail)
  refine W_loop (fun i : Nat => ⟨[(4, .ptr 0 0), (8, .row 1 1 0 T.length), (10, .row 2 1 0 P.length), (12, iv (i : Int))], [some (.box 31 [.d (.sl (a.2.m.1.map encDB)), .d (.sl (a.2.m.2.1.map encU)), .d (.sl (a.2.m.2.2.map encCl)), .d (.sl (a.2.W.map encU)), wv (a.2.L : Int)]), some (.rows 29 1 (T.map encU)), some (.rows 3 1 (P.map encDI))]⟩) (fun i => i ≤ P.length) (fun i => P.length - i) 0 (Nat.zero_le _) [0, 1, 2] ?_ ?_
  · simp [go_sem]
  intro i hi
  by_cases hlt : i < P.length
  · have hki : (i : Int) < P.length := by omega
    have hkT : (i : Int) < T.length := by omega
    have hlT : i < T.length := by omega
    have ht := hTi i hlt hlT
    obtain ⟨p1, p2⟩ := hP8 _ (List.getElem_mem hlt)
    obtain ⟨k, hk⟩ : ∃ k : Nat, P[i] = (k : Int) + 1 := ⟨(P[i] - 1).toNat, by omega⟩
    have hkl : k < a.2.W.length := by omega
    have hkW : (k : Int) < a.2.W.length := by omega
    have e0 : encDI P[i] = [.int .i64 ((k : Int) + 1)] := by rw [hk]; rfl
    have hw : tkO2 a.2.W P[i] = a.2.W[k] := by
      unfold tkO2
      rw [hk, show ((k : Int) + 1 - 1).toNat = k by omega, List.getElem?_eq_getElem hkl]; rfl
    have e1 : encU T[i] = [.int .u64 (a.2.W[k] : Int)] := by rw [ht, hw]; rfl
    have e2 : encU a.2.W[k] = [.int .u64 (a.2.W[k] : Int)] := rfl
    have q1 : ¬ (k : Int) + 1 < 1 := by omega
    have q2 : ¬ 8 < (k : Int) + 1 := by omega
    have q3 : (k : Int) + 1 - 1 = (k : Int) := by omega
    repeat' (first
      | (with_reducible first | refine W_seq ?_ | refine W_condT rfl ?_ | refine W_condF rfl ?_ | refine W_tf rfl (fun h => ?_) (fun h => ?_) | refine W_block ?_ | refine endQ_ret ?_ | refine endQ_normal ?_)
      | ((with_reducible first | refine hK _ ?_ | refine hK _ _ ?_); clear hK K)
      | ((first | (with_reducible first | refine ops_cons (fun K hK => ?_) | refine opsd_cons (fun K hK => ?_) | refine ops_nil ?_ | refine fit_i64 (by omega) ?_ | refine fit_any ?_) | ((with_reducible refine opsd_nil ?_); refine And.intro (by kernel_rfl) ?_) | with_reducible refine callV_snap ?_ | (with_reducible first | refine idx_map (by omega) ?_ | refine W_reg lv7MdW3 ?_ | refine W_drw lv7MdW3 (by kernel_rfl) ?_ | refine W_skip ?_ | refine W_exit ?_ | refine W_ret ?_ | refine end_at0 ?_) | (with_reducible refine And.intro (fun h => ?_) (fun h => ?_)) | (with_reducible refine And.intro (by omega) ?_)); (try simp only [go_sem, seval, reduceCtorEq, hki, hkT, hkW, e0, e1, e2, q1, q2, q3, encU_len, lv7MdW3, Tryz.ntmps7, Tryz.results7, rgS]))
      | fail)
    refine ⟨i + 1, [0, 1, 2], by omega, by omega, ?_⟩
    simp [go_sem]
  · have hki : ¬ (i : Int) < P.length := by omega
    repeat' (first
      | (with_reducible first | refine W_seq ?_ | refine W_condT rfl ?_ | refine W_condF rfl ?_ | refine W_tf rfl (fun h => ?_) (fun h => ?_) | refine W_block ?_ | refine endQ_ret ?_ | refine endQ_normal ?_)
      | ((with_reducible first | refine hK _ ?_ | refine hK _ _ ?_); clear hK K)
      | ((first | (with_reducible first | refine ops_cons (fun K hK => ?_) | refine opsd_cons (fun K hK => ?_) | refine ops_nil ?_ | refine fit_i64 (by omega) ?_ | refine fit_any ?_) | ((with_reducible refine opsd_nil ?_); refine And.intro (by kernel_rfl) ?_) | with_reducible refine callV_snap ?_ | ((with_reducible refine call_go awkS awk_ok ?_); refine ⟨(by first | exact alOk_nil _ | exact alOk_f rfl), _, _, awk_at , ?_⟩) | (with_reducible first | refine idx_map (by omega) ?_ | refine W_reg lv7MdW3 ?_ | refine W_drw lv7MdW3 (by kernel_rfl) ?_ | refine W_skip ?_ | refine W_exit ?_ | refine W_ret ?_ | refine end_at0 ?_) | (with_reducible refine And.intro (fun h => ?_) (fun h => ?_)) | (with_reducible refine And.intro (by omega) ?_)); (try simp only [go_sem, seval, reduceCtorEq, hki, lv7MdW3, Tryz.ntmps7, Tryz.results7, rgS]))
      | fail)
end Go.Proofs.YtnclclpfmldocaaGreat
