/- Requests of an allowed trace, by the engine: follow, Waits, Waiting, Regular. -/
import Derived.Test.YtnclclpfmldocaaGreatMdU
import Derived.Test.YtnclclpfmldocaaGreatMdC
namespace Go.Proofs.YtnclclpfmldocaaGreat
open Go.RowKit
set_option maxRecDepth 100000
set_option linter.unusedSimpArgs false
set_option linter.unusedVariables false

abbrev lv18MdW1 : List (Nat × List Nat) := [(0, [0]), (1, [0, 4]), (2, [0, 4, 14]), (3, [2, 3]), (4, [7]), (5, [2, 3])]
abbrev lv19MdW1 : List (Nat × List Nat) := [(0, [0]), (1, [4, 5]), (2, [4, 5, 15]), (3, [2, 3]), (4, [4, 6]), (5, [6, 17, 18, 19]), (6, [6, 17, 18, 19, 20]), (7, [6, 8, 17, 18, 19]), (8, [6, 8, 17, 18, 19, 25]), (9, [6, 17, 18, 19]), (10, [6, 17, 18, 19]), (11, [2, 3])]
abbrev lv31MdW1 : List (Nat × List Nat) := [(0, [0]), (1, [0, 4]), (2, [0, 4, 5]), (3, [0, 4, 5, 11, 12, 13]), (4, [0, 4, 5, 11, 12, 13, 14]), (5, [0, 4, 5, 6, 7, 11, 12, 13]), (6, [0, 4, 5, 6, 7, 8, 9, 11, 12, 13]), (7, [0, 4, 5, 6, 7, 8, 9, 11, 12, 13, 25]), (8, [0, 4, 5, 6, 7, 11, 12, 13, 46]), (9, [2, 3]), (10, [0, 4, 5, 6, 7, 11, 12, 13]), (11, [0, 4, 5, 11, 12, 13]), (12, [0, 4, 5, 6, 7, 8, 9, 11, 12, 13, 63]), (13, [0, 4, 5, 6, 7, 8, 11, 12, 13, 78]), (14, [2, 3]), (15, [0, 4, 5, 7, 11, 12, 13]), (16, [0, 4, 5, 11, 12, 13]), (17, [0, 4, 5, 11, 12, 13]), (18, [2, 3])]
abbrev lv32MdW1 : List (Nat × List Nat) := [(0, [0]), (1, [0, 4]), (2, [0, 4, 14]), (3, [2, 3]), (4, [0, 6, 7]), (5, [6, 24]), (6, [2, 3]), (7, [2, 3])]
def foG (l : List Oc) : Nat → Fw
  | 0 => ⟨[], [], 0⟩
  | i + 1 => match l[i]? with
    | some x => foS i (foG l i) x
    | none => foG l i
theorem foG_succ {l : List Oc} {i : Nat} (h : i < l.length) : foG l (i + 1) = foS i (foG l i) l[i] := by rw [foG, List.getElem?_eq_getElem h]
theorem fo_all {l : List Oc} {t : Sy} (hr : run sy0 l = some t) (hv : ∀ x ∈ l, ocE x = 0) : ∀ i, i ≤ l.length → ∃ s, Vs s ∧ run sy0 (l.take i) = some s ∧ Fo i s (foG l i) ∧ ∀ h : i < l.length, Fs (foG l i) l[i]
  | i, hi => by
    obtain ⟨s, hs, hd⟩ := run_take hr i
    have hvs : Vs s := run_vs sy0_vs (fun y hy => hv y (List.mem_of_mem_take hy)) hs
    have key : Fo i s (foG l i) := by
      cases i with
      | zero => injection hs with hs; subst hs; exact fo_nil
      | succ i =>
        obtain ⟨u, hu, hr', hF, _⟩ := fo_all hr hv i (by omega)
        have hx := hv _ (List.getElem_mem (show i < l.length by omega))
        rw [take_get l i (by omega), run_app, hr'] at hs
        have hn : nx u l[i] = some s := (run_one _ _).symm.trans hs
        rw [foG_succ (by omega)]
        exact (fo_step hF hu hx hn).2
    refine ⟨s, hvs, hs, key, fun h => ?_⟩
    rw [List.drop_eq_getElem_cons h, run] at hd
    cases hn : nx s l[i] with
    | none => rw [hn] at hd; cases hd
    | some u => exact (fo_step key hvs (hv _ (List.getElem_mem h)) hn).1
theorem encWte : Enc encWt 4 := ⟨fun _ => rfl, fun x d hd => by simp only [encWt, List.mem_cons, List.not_mem_nil, or_false] at hd; rcases hd with rfl | rfl | rfl | rfl <;> rfl⟩
theorem zr_int : ∀ w, (zeroValue 3).run Tryz.prog w = .ok (.int .i64 0) w := fun _ => rfl
theorem rep_pe (op : List Pe) (k : Int) (w : World) (S : Nat → Prop) (μ : Mu) : Rep w S μ (iv (((pget op k).getD 0 : Nat) : Int)) ((iget (op.map peE) k).getD (.int .i64 0)) := by
  rw [iget_pe]
  cases pget op k <;> exact .d .int
theorem some_pe (op : List Pe) (k : Int) : (iget (op.map peE) k).isSome = (pget op k).isSome := by rw [iget_pe]; cases pget op k <;> rfl
def folS : Spec := { rel := fun args ins res outs => ∃ (l : List Oc) (t : Sy), run sy0 l = some t ∧ (∀ x ∈ l, ocE x = 0) ∧ l.length ≤ 1000 ∧ args = [ocL l] ∧ ins = [] ∧ res = .tup [.row 0 4 0 (foG l l.length).ws.length, iv (l.length : Int)] ∧ outs = [.rows 78 4 ((foG l l.length).ws.map encWt)] }
theorem fol_at (l : List Oc) (t : Sy) (h1 : run sy0 l = some t) (h2 : ∀ x ∈ l, ocE x = 0) (h3 : l.length ≤ 1000) : folS.rel [ocL l] [] (.tup [.row 0 4 0 (foG l l.length).ws.length, iv (l.length : Int)]) [.rows 78 4 ((foG l l.length).ws.map encWt)] := ⟨l, t, h1, h2, h3, rfl, rfl, rfl, rfl⟩
set_option maxHeartbeats 4000000 in
theorem fol_ok : Ok Tryz.prog 31 folS := by
  refine fn_ok folS Tryz.func31 rfl rfl ?_
  rintro args ins res outs ⟨l, t, hr, hv, hl, rfl, rfl, rfl, rfl⟩
  refine ⟨by simp [Tryz.ntmps31], fun w0 V Bo mu0 => ?_⟩
  have hall := fo_all hr hv
  repeat' (first
    | (with_reducible first | refine W_seq ?_ | refine W_condT rfl ?_ | refine W_condF rfl ?_ | refine W_tf rfl (fun h => ?_) (fun h => ?_) | refine W_block ?_ | refine endQ_ret ?_ | refine endQ_normal ?_)
    | ((with_reducible first | refine hK _ ?_ | refine hK _ _ ?_); clear hK K)
    | ((refine ext_imake rfl ?_ rfl ?_) <;> simp only [go_sem, seval, reduceCtorEq])
    | ((first | (with_reducible first | refine ops_cons (fun K hK => ?_) | refine opsd_cons (fun K hK => ?_) | refine ops_nil ?_ | refine fit_i64 (by omega) ?_ | refine fit_any ?_) | ((with_reducible refine opsd_nil ?_); refine And.intro (by kernel_rfl) ?_) | with_reducible refine callV_snap ?_ | (with_reducible first | refine slice_old ?_ | refine app_grow ?_ | refine idx_map (by omega) ?_ | refine W_reg lv31MdW1 ?_ | refine W_drw lv31MdW1 (by kernel_rfl) ?_ | refine W_skip ?_ | refine W_exit ?_ | refine W_ret ?_ | refine end_at0 ?_) | (with_reducible refine And.intro (fun h => ?_) (fun h => ?_)) | (with_reducible refine And.intro (by omega) ?_)); (try simp only [go_sem, seval, reduceCtorEq, lv31MdW1, Tryz.ntmps31, Tryz.results31, folS]))
    | fail)
  refine W_adopt 4 78 4 (by decide) (by simp [go_sem]) ?_
  refine W_loop (fun i : Nat => ⟨[(0, ocL l), (4, .row 1 4 0 (foG l i).ws.length), (5, .mp 0), (11, ocL l), (12, iv (l.length : Int)), (13, iv (i : Int))], [some (imO ((foG l i).op.map peE) (foG l i).ck), some (.rows 78 4 ((foG l i).ws.map encWt))]⟩) (fun i => i ≤ l.length) (fun i => l.length - i) 0 (Nat.zero_le _) [0, 1] ?_ ?_
  · simp [go_sem, foG]
  intro i hi
  obtain ⟨s, hs, _, hF, hS⟩ := hall i hi
  have hlen := hF.len
  by_cases hlt : i < l.length
  case neg =>
    have hki : ¬ (i : Int) < l.length := by omega
    obtain rfl : i = l.length := by omega
    generalize foG l l.length = a at *
    repeat' (first
      | (with_reducible first | refine W_seq ?_ | refine W_condT rfl ?_ | refine W_condF rfl ?_ | refine W_tf rfl (fun h => ?_) (fun h => ?_) | refine W_block ?_ | refine endQ_ret ?_ | refine endQ_normal ?_)
      | ((with_reducible first | refine hK _ ?_ | refine hK _ _ ?_); clear hK K)
      | ((first | (with_reducible first | refine ops_cons (fun K hK => ?_) | refine opsd_cons (fun K hK => ?_) | refine ops_nil ?_ | refine fit_i64 (by omega) ?_ | refine fit_any ?_) | ((with_reducible refine opsd_nil ?_); refine And.intro (by kernel_rfl) ?_) | with_reducible refine callV_snap ?_ | (with_reducible first | refine slice_old ?_ | refine app_grow ?_ | refine idx_map (by omega) ?_ | refine W_reg lv31MdW1 ?_ | refine W_drw lv31MdW1 (by kernel_rfl) ?_ | refine W_skip ?_ | refine W_exit ?_ | refine end_at0 ?_) | (with_reducible refine And.intro (fun h => ?_) (fun h => ?_)) | (with_reducible refine And.intro (by omega) ?_)); (try simp only [go_sem, seval, reduceCtorEq, hki, lv31MdW1, Tryz.ntmps31, Tryz.results31, folS]))
      | fail)
    refine W_ret (endQ_ret (end_at [1] ?_))
    have := encWte.flat a.ws
    simp [go_sem, Tryz.results31, folS]
    simpa [flatD] using this
  have hki : (i : Int) < l.length := by omega
  have hS := hS hlt
  have hsu := foG_succ hlt
  have hnd := hF.nd
  obtain ⟨x, hx⟩ : ∃ x, l[i] = x := ⟨_, rfl⟩
  have e0 : encOc l[i] = [.int .i64 x.k, .int .i64 x.p, .int .i64 x.o, .int .i64 x.g, .int .i64 x.w, .int .u64 (x.t : Int), .int .u64 (x.v : Int)] := by rw [hx]; rfl
  rw [hx] at hS hsu
  generalize foG l i = a at *
  have hy := rep_pe a.op x.p
  have hb := some_pe a.op x.p
  by_cases h9 : x.k = 9
  · obtain ⟨hg, hlast⟩ := hS.q h9
    have hu : foS i a x = ⟨a.ws ++ [⟨x.t, x.p, (i : Int), -1⟩], a.op ++ [(x.p, a.ws.length, a.ck)], a.ck + 1⟩ := if_pos h9
    rw [hu] at hsu
    have ip := iput_pe hg a.ck a.ws.length
    rw [hg] at hy hb
    by_cases hw0 : a.ws.length = 0
    · have hw0' : ¬ 0 < (a.ws.length : Int) := by omega
      repeat' (first
        | (with_reducible first | refine W_seq ?_ | refine W_condT rfl ?_ | refine W_condF rfl ?_ | refine W_tf rfl (fun h => ?_) (fun h => ?_) | refine W_block ?_ | refine endQ_ret ?_ | refine endQ_normal ?_)
        | ((with_reducible first | refine hK _ ?_ | refine hK _ _ ?_); clear hK K)
        | ((refine ext_ilook2 (iv ((0 : Nat) : Int)) false rfl ?_ rfl zr_int rfl rfl rfl hy hb ?_) <;> simp only [go_sem, seval, reduceCtorEq])
        | ((refine ext_iput (.inl rfl) rfl rfl rfl rfl rfl (only_int _ _) rfl ?_); simp only [go_sem, seval, reduceCtorEq, ip])
        | ((first | (with_reducible first | refine ops_cons (fun K hK => ?_) | refine opsd_cons (fun K hK => ?_) | refine ops_nil ?_ | refine fit_i64 (by omega) ?_ | refine fit_any ?_) | ((with_reducible refine opsd_nil ?_); refine And.intro (by kernel_rfl) ?_) | with_reducible refine callV_snap ?_ | (with_reducible first | refine slice_old ?_ | refine app_grow ?_ | refine idx_map (by omega) ?_ | refine W_reg lv31MdW1 ?_ | refine W_drw lv31MdW1 (by kernel_rfl) ?_ | refine W_skip ?_ | refine W_exit ?_ | refine W_ret ?_ | refine end_at0 ?_) | (with_reducible refine And.intro (fun h => ?_) (fun h => ?_)) | (with_reducible refine And.intro (by omega) ?_)); (try simp only [go_sem, seval, reduceCtorEq, hki, e0, h9, hw0', lv31MdW1, Tryz.ntmps31, Tryz.results31, folS]))
        | fail)
      refine ⟨i + 1, [0, 4], by omega, by omega, ?_⟩
      simp only [hsu]
      simp [go_sem, encWt]
    · have hw0' : 0 < (a.ws.length : Int) := by omega
      have hwl : a.ws.length - 1 < a.ws.length := by omega
      have hwi : (a.ws.length : Int) - 1 = ((a.ws.length - 1 : Nat) : Int) := by omega
      have hlt2 := hlast _ (List.mem_map.2 ⟨a.ws[a.ws.length - 1], List.getElem_mem hwl, rfl⟩)
      obtain ⟨y, hyl⟩ : ∃ y, a.ws[a.ws.length - 1] = y := ⟨_, rfl⟩
      have f0 : encWt a.ws[a.ws.length - 1] = [.int .u64 (y.t : Int), .int .i64 y.p, .int .i64 y.f, .int .i64 y.o] := by rw [hyl]; rfl
      rw [hyl] at hlt2
      have hlt3 : ¬ (x.t : Int) ≤ (y.t : Int) := by omega
      repeat' (first
        | (with_reducible first | refine W_seq ?_ | refine W_condT rfl ?_ | refine W_condF rfl ?_ | refine W_tf rfl (fun h => ?_) (fun h => ?_) | refine W_block ?_ | refine endQ_ret ?_ | refine endQ_normal ?_)
        | ((with_reducible first | refine hK _ ?_ | refine hK _ _ ?_); clear hK K)
        | ((refine ext_ilook2 (iv ((0 : Nat) : Int)) false rfl ?_ rfl zr_int rfl rfl rfl hy hb ?_) <;> simp only [go_sem, seval, reduceCtorEq])
        | ((refine ext_iput (.inl rfl) rfl rfl rfl rfl rfl (only_int _ _) rfl ?_); simp only [go_sem, seval, reduceCtorEq, ip])
        | ((first | (with_reducible first | refine ops_cons (fun K hK => ?_) | refine opsd_cons (fun K hK => ?_) | refine ops_nil ?_ | refine fit_i64 (by omega) ?_ | refine fit_any ?_) | ((with_reducible refine opsd_nil ?_); refine And.intro (by kernel_rfl) ?_) | with_reducible refine callV_snap ?_ | (with_reducible first | refine slice_old ?_ | refine app_grow ?_ | refine idx_map (by omega) ?_ | refine W_reg lv31MdW1 ?_ | refine W_drw lv31MdW1 (by kernel_rfl) ?_ | refine W_skip ?_ | refine W_exit ?_ | refine W_ret ?_ | refine end_at0 ?_) | (with_reducible refine And.intro (fun h => ?_) (fun h => ?_)) | (with_reducible refine And.intro (by omega) ?_)); (try simp only [go_sem, seval, reduceCtorEq, hki, e0, f0, h9, hw0', hwi, hlt3, lv31MdW1, Tryz.ntmps31, Tryz.results31, folS]))
        | fail)
      refine ⟨i + 1, [0, 4], by omega, by omega, ?_⟩
      simp only [hsu]
      simp [go_sem, encWt]
  by_cases ht : x.t = 0
  · have hu : foS i a x = a := by unfold foS; rw [if_neg h9, if_pos ht]
    rw [hu] at hsu
    have ht' : (x.t : Int) = 0 := by omega
    obtain ⟨b, hbe⟩ : ∃ b, (pget a.op x.p).isSome = b := ⟨_, rfl⟩
    rw [hbe] at hb
    generalize ((pget a.op x.p).getD 0 : Nat) = J at *
    repeat' (first
      | (with_reducible first | refine W_seq ?_ | refine W_condT rfl ?_ | refine W_condF rfl ?_ | refine W_tf rfl (fun h => ?_) (fun h => ?_) | refine W_block ?_ | refine endQ_ret ?_ | refine endQ_normal ?_)
      | ((with_reducible first | refine hK _ ?_ | refine hK _ _ ?_); clear hK K)
      | ((refine ext_ilook2 (iv (J : Int)) b rfl ?_ rfl zr_int rfl rfl rfl hy hb ?_) <;> simp only [go_sem, seval, reduceCtorEq])
      | ((first | (with_reducible first | refine ops_cons (fun K hK => ?_) | refine opsd_cons (fun K hK => ?_) | refine ops_nil ?_ | refine fit_i64 (by omega) ?_ | refine fit_any ?_) | ((with_reducible refine opsd_nil ?_); refine And.intro (by kernel_rfl) ?_) | with_reducible refine callV_snap ?_ | (with_reducible first | refine slice_old ?_ | refine app_grow ?_ | refine idx_map (by omega) ?_ | refine W_reg lv31MdW1 ?_ | refine W_drw lv31MdW1 (by kernel_rfl) ?_ | refine W_skip ?_ | refine W_exit ?_ | refine W_ret ?_ | refine end_at0 ?_) | (with_reducible refine And.intro (fun h => ?_) (fun h => ?_)) | (with_reducible refine And.intro (by omega) ?_)); (try simp only [go_sem, seval, reduceCtorEq, hki, e0, h9, ht', lv31MdW1, Tryz.ntmps31, Tryz.results31, folS]))
      | fail)
    refine ⟨i + 1, [0, 1], by omega, by omega, ?_⟩
    simp only [hsu]
    simp [go_sem]
  · obtain ⟨j, hj, hg, hjt⟩ := hS.e h9 ht
    have hu : foS i a x = ⟨a.ws.modify j (clo i), a.op.filter (fun e => decide (e.1 ≠ x.p)), a.ck⟩ := by unfold foS; rw [if_neg h9, if_neg ht, hg]; rfl
    rw [hu] at hsu
    have ht' : ¬ (x.t : Int) = 0 := by omega
    have id := idel_pe x.p a.op hnd
    rw [hg] at hy hb
    have hji : (j : Int) < (a.ws.length : Int) := by omega
    obtain ⟨y, hyl⟩ : ∃ y, a.ws[j] = y := ⟨_, rfl⟩
    have f0 : encWt a.ws[j] = [.int .u64 (x.t : Int), .int .i64 y.p, .int .i64 y.f, .int .i64 y.o] := by rw [← hjt, hyl]; rfl
    have hset : (a.ws.map encWt).set j [.int .u64 (x.t : Int), .int .i64 y.p, .int .i64 y.f, .int .i64 (i : Int)] = (a.ws.modify j (clo i)).map encWt := by
      apply List.ext_getElem (by simp)
      intro n g1 g2
      simp only [List.getElem_set, List.getElem_map, List.getElem_modify]
      by_cases hn : j = n
      · subst hn
        rw [if_pos rfl, if_pos rfl, hyl]
        rw [hyl] at hjt
        simp [encWt, clo, hjt]
      · rw [if_neg hn, if_neg hn]
    repeat' (first
      | (with_reducible first | refine W_seq ?_ | refine W_condT rfl ?_ | refine W_condF rfl ?_ | refine W_tf rfl (fun h => ?_) (fun h => ?_) | refine W_block ?_ | refine endQ_ret ?_ | refine endQ_normal ?_)
      | ((with_reducible first | refine hK _ ?_ | refine hK _ _ ?_); clear hK K)
      | ((refine ext_ilook2 (iv (j : Int)) true rfl ?_ rfl zr_int rfl rfl rfl hy hb ?_) <;> simp only [go_sem, seval, reduceCtorEq])
      | ((refine ext_idel rfl ?_ rfl rfl rfl rfl ?_) <;> simp only [go_sem, seval, reduceCtorEq, id])
      | ((with_reducible refine idx_map2 hj ?_); simp only [go_sem, seval, reduceCtorEq, f0, hset])
      | ((first | (with_reducible first | refine ops_cons (fun K hK => ?_) | refine opsd_cons (fun K hK => ?_) | refine ops_nil ?_ | refine fit_i64 (by omega) ?_ | refine fit_any ?_) | ((with_reducible refine opsd_nil ?_); refine And.intro (by kernel_rfl) ?_) | with_reducible refine callV_snap ?_ | (with_reducible first | refine slice_old ?_ | refine app_grow ?_ | refine idx_map (by omega) ?_ | refine W_reg lv31MdW1 ?_ | refine W_drw lv31MdW1 (by kernel_rfl) ?_ | refine W_skip ?_ | refine W_exit ?_ | refine W_ret ?_ | refine end_at0 ?_) | (with_reducible refine And.intro (fun h => ?_) (fun h => ?_)) | (with_reducible refine And.intro (by omega) ?_)); (try simp only [go_sem, seval, reduceCtorEq, hki, e0, f0, h9, ht', hji, hset, lv31MdW1, Tryz.ntmps31, Tryz.results31, folS]))
      | fail)
    refine ⟨i + 1, [0, 1], by omega, by omega, ?_⟩
    simp only [hsu]
    simp [go_sem, hset]
/-- the requests as data -/
abbrev wtL (l : List Wt) : AV := .d (.sl (l.map encWt))
def wtsS : Spec := { rel := fun args ins res outs => ∃ (l : List Oc) (t : Sy), run sy0 l = some t ∧ (∀ x ∈ l, ocE x = 0) ∧ l.length ≤ 1000 ∧ args = [ocL l] ∧ ins = [] ∧ res = .tup [.row 0 4 0 (foG l l.length).ws.length, iv 0] ∧ outs = [.rows 78 4 ((foG l l.length).ws.map encWt)] }
theorem wts_at (l : List Oc) (t : Sy) (h1 : run sy0 l = some t) (h2 : ∀ x ∈ l, ocE x = 0) (h3 : l.length ≤ 1000) : wtsS.rel [ocL l] [] (.tup [.row 0 4 0 (foG l l.length).ws.length, iv 0]) [.rows 78 4 ((foG l l.length).ws.map encWt)] := ⟨l, t, h1, h2, h3, rfl, rfl, rfl, rfl⟩
theorem wts_ok : Ok Tryz.prog 32 wtsS := by
  refine fn_ok wtsS Tryz.func32 rfl rfl ?_
  rintro args ins res outs ⟨l, t, hr, hv, hl, rfl, rfl, rfl, rfl⟩
  refine ⟨by simp [Tryz.ntmps32], fun w0 V Bo mu0 => ?_⟩
  have Trk_at : TrkS.rel [ocL l] [] (.tup [iv 0, iv ((0 : Nat) : Int)]) [] := Trk_at l (by omega) (trE_zero (by omega) hv)
  have fol_at := fol_at l t hr hv hl
  generalize (foG l l.length).ws = ws at *
  have hll : ¬ (l.length : Int) < (l.length : Int) := by omega
  repeat' (first
    | (with_reducible first | refine W_seq ?_ | refine W_condT rfl ?_ | refine W_condF rfl ?_ | refine W_tf rfl (fun h => ?_) (fun h => ?_) | refine endQ_ret ?_ | refine endQ_normal ?_)
    | ((with_reducible first | refine hK _ ?_ | refine hK _ _ ?_); clear hK K)
    | ((first | (with_reducible first | refine ops_cons (fun K hK => ?_) | refine ops_nil ?_) | with_reducible refine callV_snap ?_ | ((with_reducible refine call_go TrkS Trk_ok ?_); refine ⟨(by first | exact alOk_nil _ | exact alOk_f rfl), _, _, Trk_at , ?_⟩) | ((with_reducible refine call_go folS fol_ok ?_); refine ⟨(by first | exact alOk_nil _ | exact alOk_f rfl), _, _, fol_at , ?_⟩) | (with_reducible first | refine slice_old ?_ | refine W_reg lv32MdW1 ?_ | refine W_skip ?_ | refine end_at0 ?_) | (with_reducible refine And.intro (fun h => ?_) (fun h => ?_)) | (with_reducible refine And.intro (by omega) ?_)); (try simp only [go_sem, seval, reduceCtorEq, hll, lv32MdW1, Tryz.ntmps32, Tryz.results32, wtsS]))
    | fail)
  refine W_ret (endQ_ret (end_at [0] ?_))
  have := encWte.flat ws
  simp [go_sem, Tryz.results32, wtsS]
  simpa [flatD] using this
/-- the tickets without an end, of the first i -/
def tkP (ws : List Wt) (i : Nat) : List Nat := ((ws.take i).filter fun w => decide (w.o < 0)).map (·.t)
theorem tkP_len (ws : List Wt) (i : Nat) : (tkP ws i).length ≤ i := by
  unfold tkP
  rw [List.length_map]
  exact Nat.le_trans (List.length_filter_le _ _) (by rw [List.length_take]; omega)
def tWtS : Spec := { rel := fun args ins res outs => ∃ (l : List Oc) (t : Sy), run sy0 l = some t ∧ (∀ x ∈ l, ocE x = 0) ∧ l.length ≤ 1000 ∧ args = [ocL l] ∧ ins = [] ∧ res = .tup [.row 0 1 0 (tkW2 (foG l l.length)).length, iv 0] ∧ outs = [.rows 29 1 ((tkW2 (foG l l.length)).map encU)] }
theorem tWt_at (l : List Oc) (t : Sy) (h1 : run sy0 l = some t) (h2 : ∀ x ∈ l, ocE x = 0) (h3 : l.length ≤ 1000) : tWtS.rel [ocL l] [] (.tup [.row 0 1 0 (tkW2 (foG l l.length)).length, iv 0]) [.rows 29 1 ((tkW2 (foG l l.length)).map encU)] := ⟨l, t, h1, h2, h3, rfl, rfl, rfl, rfl⟩
set_option maxHeartbeats 1000000 in
theorem tWt_ok : Ok Tryz.prog 19 tWtS := by
  refine fn_ok tWtS Tryz.func19 rfl rfl ?_
  rintro args ins res outs ⟨l, t, hr, hv, hl, rfl, rfl, rfl, rfl⟩
  refine ⟨by simp [Tryz.ntmps19], fun w0 V Bo mu0 => ?_⟩
  have wts_at := wts_at l t hr hv hl
  have hwl : (foG l l.length).ws.length ≤ 1000 := by
    obtain ⟨s, _, _, hF, _⟩ := fo_all hr hv l.length (Nat.le_refl _)
    have := hF.len
    omega
  have hT : tkW2 (foG l l.length) = tkP (foG l l.length).ws (foG l l.length).ws.length := by unfold tkW2 tkP; rw [List.take_length]
  rw [hT]
  generalize (foG l l.length).ws = ws at *
  clear hT
  repeat' (first
    | (with_reducible first | refine W_seq ?_ | refine W_condT rfl ?_ | refine W_condF rfl ?_ | refine W_tf rfl (fun h => ?_) (fun h => ?_) | refine W_block ?_ | refine endQ_ret ?_ | refine endQ_normal ?_)
    | ((with_reducible first | refine hK _ ?_ | refine hK _ _ ?_); clear hK K)
    | ((first | (with_reducible first | refine ops_cons (fun K hK => ?_) | refine ops_nil ?_ | refine fit_i64 (by omega) ?_ | refine fit_any ?_) | with_reducible refine callV_snap ?_ | ((with_reducible refine call_go wtsS wts_ok ?_); refine ⟨(by first | exact alOk_nil _ | exact alOk_f rfl), _, _, wts_at , ?_⟩) | (with_reducible first | refine slice_old ?_ | refine app_grow ?_ | refine idx_map (by omega) ?_ | refine W_reg lv19MdW1 ?_ | refine W_skip ?_ | refine W_exit ?_ | refine W_ret ?_ | refine end_at0 ?_) | (with_reducible refine And.intro (fun h => ?_) (fun h => ?_)) | (with_reducible refine And.intro (by omega) ?_)); (try simp only [go_sem, seval, reduceCtorEq, lv19MdW1, Tryz.ntmps19, Tryz.results19, tWtS]))
    | fail)
  refine W_adopt 6 29 1 (by decide) (by simp [go_sem]) ?_
  refine W_loop (fun i : Nat => ⟨[(6, .row 1 1 0 (tkP ws i).length), (17, .row 0 4 0 ws.length), (18, iv (ws.length : Int)), (19, iv (i : Int))], [some (.rows 78 4 (ws.map encWt)), some (.rows 29 1 ((tkP ws i).map encU))]⟩) (fun i => i ≤ ws.length) (fun i => ws.length - i) 0 (Nat.zero_le _) [0, 1] ?_ ?_
  · simp [go_sem, tkP]
  intro i hi
  have hlen := tkP_len ws i
  by_cases hlt : i < ws.length
  case neg =>
    have hki : ¬ (i : Int) < ws.length := by omega
    obtain rfl : i = ws.length := by omega
    repeat' (first
      | (with_reducible first | refine W_seq ?_ | refine W_condT rfl ?_ | refine W_condF rfl ?_ | refine W_tf rfl (fun h => ?_) (fun h => ?_) | refine W_block ?_ | refine endQ_ret ?_ | refine endQ_normal ?_)
      | ((with_reducible first | refine hK _ ?_ | refine hK _ _ ?_); clear hK K)
      | ((first | (with_reducible first | refine ops_cons (fun K hK => ?_) | refine ops_nil ?_ | refine fit_i64 (by omega) ?_ | refine fit_any ?_) | with_reducible refine callV_snap ?_ | (with_reducible first | refine slice_old ?_ | refine app_grow ?_ | refine idx_map (by omega) ?_ | refine W_reg lv19MdW1 ?_ | refine W_skip ?_ | refine W_exit ?_ | refine end_at0 ?_) | (with_reducible refine And.intro (fun h => ?_) (fun h => ?_)) | (with_reducible refine And.intro (by omega) ?_)); (try simp only [go_sem, seval, reduceCtorEq, hki, lv19MdW1, Tryz.ntmps19, Tryz.results19, tWtS]))
      | fail)
    refine W_ret (endQ_ret (end_at [1] ?_))
    have := encUe.flat (tkP ws ws.length)
    simp [go_sem, Tryz.results19, tWtS]
    simpa [flatD] using this
  have hki : (i : Int) < ws.length := by omega
  have hs : tkP ws (i + 1) = tkP ws i ++ if ws[i].o < 0 then [ws[i].t] else [] := by
    unfold tkP
    rw [take_get ws i hlt, List.filter_append, List.map_append]
    by_cases ho : ws[i].o < 0
    · rw [if_pos ho, List.filter_cons_of_pos (by simpa using ho)]; rfl
    · rw [if_neg ho, List.filter_cons_of_neg (by simpa using ho)]; rfl
  obtain ⟨y, hy⟩ : ∃ y, ws[i] = y := ⟨_, rfl⟩
  have e0 : encWt ws[i] = [.int .u64 (y.t : Int), .int .i64 y.p, .int .i64 y.f, .int .i64 y.o] := by rw [hy]; rfl
  rw [hy] at hs
  by_cases ho : y.o < 0
  · rw [if_pos ho] at hs
    repeat' (first
      | (with_reducible first | refine W_seq ?_ | refine W_condT rfl ?_ | refine W_condF rfl ?_ | refine W_tf rfl (fun h => ?_) (fun h => ?_) | refine W_block ?_ | refine endQ_ret ?_ | refine endQ_normal ?_)
      | ((with_reducible first | refine hK _ ?_ | refine hK _ _ ?_); clear hK K)
      | ((first | (with_reducible first | refine ops_cons (fun K hK => ?_) | refine ops_nil ?_ | refine fit_i64 (by omega) ?_ | refine fit_any ?_) | with_reducible refine callV_snap ?_ | (with_reducible first | refine slice_old ?_ | refine app_grow ?_ | refine idx_map (by omega) ?_ | refine W_reg lv19MdW1 ?_ | refine W_skip ?_ | refine W_exit ?_ | refine W_ret ?_ | refine end_at0 ?_) | (with_reducible refine And.intro (fun h => ?_) (fun h => ?_)) | (with_reducible refine And.intro (by omega) ?_)); (try simp only [go_sem, seval, reduceCtorEq, hki, e0, ho, lv19MdW1, Tryz.ntmps19, Tryz.results19, tWtS]))
      | fail)
    refine ⟨i + 1, [0, 4], by omega, by omega, ?_⟩
    simp only [hs]
    simp [go_sem, encU]
  · rw [if_neg ho, List.append_nil] at hs
    repeat' (first
      | (with_reducible first | refine W_seq ?_ | refine W_condT rfl ?_ | refine W_condF rfl ?_ | refine W_tf rfl (fun h => ?_) (fun h => ?_) | refine W_block ?_ | refine endQ_ret ?_ | refine endQ_normal ?_)
      | ((with_reducible first | refine hK _ ?_ | refine hK _ _ ?_); clear hK K)
      | ((first | (with_reducible first | refine ops_cons (fun K hK => ?_) | refine ops_nil ?_ | refine fit_i64 (by omega) ?_ | refine fit_any ?_) | with_reducible refine callV_snap ?_ | (with_reducible first | refine slice_old ?_ | refine app_grow ?_ | refine idx_map (by omega) ?_ | refine W_reg lv19MdW1 ?_ | refine W_skip ?_ | refine W_exit ?_ | refine W_ret ?_ | refine end_at0 ?_) | (with_reducible refine And.intro (fun h => ?_) (fun h => ?_)) | (with_reducible refine And.intro (by omega) ?_)); (try simp only [go_sem, seval, reduceCtorEq, hki, e0, ho, lv19MdW1, Tryz.ntmps19, Tryz.results19, tWtS]))
      | fail)
    refine ⟨i + 1, [0, 1], by omega, by omega, ?_⟩
    simp only [hs]
    simp [go_sem]
def regS : Spec := { rel := fun args ins res outs => ∃ (l : List Oc) (t : Sy), run sy0 l = some t ∧ (∀ x ∈ l, ocE x = 0) ∧ l.length ≤ 1000 ∧ args = [ocL l] ∧ ins = [] ∧ res = .tup [iv (l.length : Int), iv 0] ∧ outs = [] }
theorem reg_at (l : List Oc) (t : Sy) (h1 : run sy0 l = some t) (h2 : ∀ x ∈ l, ocE x = 0) (h3 : l.length ≤ 1000) : regS.rel [ocL l] [] (.tup [iv (l.length : Int), iv 0]) [] := ⟨l, t, h1, h2, h3, rfl, rfl, rfl, rfl⟩
theorem reg_ok : Ok Tryz.prog 18 regS := by
  refine fn_ok regS Tryz.func18 rfl rfl ?_
  rintro args ins res outs ⟨l, t, hr, hv, hl, rfl, rfl, rfl, rfl⟩
  refine ⟨by simp [Tryz.ntmps18], fun w0 V Bo mu0 => ?_⟩
  have Trk_at : TrkS.rel [ocL l] [] (.tup [iv 0, iv ((0 : Nat) : Int)]) [] := Trk_at l (by omega) (trE_zero (by omega) hv)
  have fol_at := fol_at l t hr hv hl
  generalize (foG l l.length).ws = ws at *
  repeat' (first
    | (with_reducible first | refine W_seq ?_ | refine W_condT rfl ?_ | refine W_condF rfl ?_ | refine W_tf rfl (fun h => ?_) (fun h => ?_) | refine endQ_ret ?_ | refine endQ_normal ?_)
    | ((with_reducible first | refine hK _ ?_ | refine hK _ _ ?_); clear hK K)
    | ((first | (with_reducible first | refine ops_cons (fun K hK => ?_) | refine ops_nil ?_) | with_reducible refine callV_snap ?_ | ((with_reducible refine call_go TrkS Trk_ok ?_); refine ⟨(by first | exact alOk_nil _ | exact alOk_f rfl), _, _, Trk_at , ?_⟩) | ((with_reducible refine call_go folS fol_ok ?_); refine ⟨(by first | exact alOk_nil _ | exact alOk_f rfl), _, _, fol_at , ?_⟩) | (with_reducible first | refine W_reg lv18MdW1 ?_ | refine W_skip ?_ | refine W_ret ?_ | refine end_at0 ?_) | (with_reducible refine And.intro (fun h => ?_) (fun h => ?_)) | (with_reducible refine And.intro (by omega) ?_)); (try simp only [go_sem, seval, reduceCtorEq, lv18MdW1, Tryz.ntmps18, Tryz.results18, regS]))
    | fail)
end Go.Proofs.YtnclclpfmldocaaGreat
