/- Helpers of the laws about zones; the examples that every law asks for; BuddyChanges; by the engine. -/
import Derived.Test.YtniiaaagammebaaBdZ
namespace Go.Proofs.Ytniiaaagammebaa
open Go.RowKit
set_option maxRecDepth 100000
set_option linter.unusedSimpArgs false
set_option linter.unusedVariables false

abbrev lv13BdAA : List (Nat × List Nat) := [(0, [2, 3]), (1, [2, 3, 19]), (2, [4]), (3, [2, 3, 5]), (4, [2, 3, 5, 24]), (5, [2, 3, 5]), (6, [2, 3, 5, 37]), (7, [4]), (8, [4])]
abbrev lv32BdAA : List (Nat × List Nat) := [(0, [1, 2]), (1, [1, 2, 12]), (2, [4]), (3, [1, 2, 5]), (4, [1, 2, 5, 17]), (5, [1, 2, 5]), (6, [1, 2, 5, 46]), (7, [4]), (8, [4])]
def OwnBS : Spec := { rel := fun args ins res outs => ∃ (n : Int) (l : List Bi), l.length ≤ 1000000 ∧ args = [zv n l] ∧ ins = [] ∧ res = .agg [iv n, .row 0 2 0 l.length] ∧ outs = [.rows 50 2 (l.map encBk)] }
theorem OwnB_ok : Ok Try.prog 10 OwnBS := by
  refine fn_ok OwnBS Try.func10 rfl rfl ?_
  rintro args ins res outs ⟨n, l, hl, rfl, rfl, rfl, rfl⟩
  refine ⟨by simp [Try.ntmps10], fun w0 V Bo mu0 => ?_⟩
  repeat' (first
    | (with_reducible first | refine W_seq ?_ | refine W_condT rfl ?_ | refine W_condF rfl ?_ | refine W_tf rfl (fun h => ?_) (fun h => ?_) | refine W_block ?_ | refine W_scope ?_ | refine endQ_ret ?_ | refine endQ_normal ?_)
    | ((with_reducible first | refine hK _ ?_ | refine hK _ _ ?_); clear hK K)
    | ((with_reducible refine And.intro (encBke.rows _) ?_))
    | ((first | (with_reducible first | refine ops_cons (fun K hK => ?_) | refine opsd_cons (fun K hK => ?_) | refine ops_nil ?_ | refine fit_i64 (by omega) ?_ | refine fit_u8 (by omega) ?_ | refine fit_u64 (by omega) ?_ | refine fit_u32 (by omega) ?_ | refine fit_any ?_ | refine quo_nn (by omega) ?_ | refine rem_nn (by omega) ?_ | refine quo_any ?_ | refine rem_any ?_ | refine sh_in (by simp only [IntKind.bits]; omega) ?_) | ((with_reducible refine opsd_nil ?_); refine And.intro (by kernel_rfl) ?_) | with_reducible refine callV_snap ?_ | (with_reducible first | refine slice_old ?_ | refine app_grow ?_ | refine idx_map (by omega) ?_ | refine W_reg [(0, [1, 2]), (1, [2])] ?_ | refine W_drw [(0, [1, 2]), (1, [2])] (by kernel_rfl) ?_ | refine W_label ?_ | refine W_skip ?_ | refine W_exit ?_ | refine end_at0 ?_) | (with_reducible refine And.intro (fun h => ?_) (fun h => ?_)) | (with_reducible refine And.intro (by omega) ?_)); (try simp only [go_sem, seval, reduceCtorEq, Try.ntmps10, Try.results10, OwnBS]))
    | fail)
  refine W_ret (endQ_ret (end_at [3] ?_))
  have := encBke.flat l
  simp [go_sem, Try.results10, OwnBS]
  simpa [flatD, encBk] using this
def OwnBFS : Spec := { al := true, rel := fun args ins res outs => ∃ (n : Int) (l : List Bi), l.length ≤ 1000000 ∧ args = [zv n l] ∧ ins = [] ∧ res = zv n l ∧ outs = [] }
theorem OwnBF_at (n : Int) (l : List Bi) (h : l.length ≤ 1000000) : OwnBFS.rel [zv n l] [] (zv n l) [] := ⟨n, l, h, rfl, rfl, rfl, rfl⟩
theorem OwnBF_ok : Ok Try.prog 10 OwnBFS := by
  refine ok_frz OwnB_ok OwnBFS rfl ?_
  rintro args ins res outs ⟨n, l, hl, rfl, rfl, rfl, rfl⟩
  exact ⟨rfl, rfl, _, _, ⟨n, l, hl, rfl, rfl, rfl, rfl⟩, by simp [frz, frzA, frzL, frz1, List.take_of_length_le]⟩
def SameBS : Spec := { rel := fun args ins res outs => ∃ (n : Int) (l : List Bi), l.length ≤ 1000000 ∧ args = [zv n l, zv n l] ∧ ins = [] ∧ res = bv true ∧ outs = [] }
abbrev SameZS : Spec := SameBS
theorem SameZ_at (n : Int) (l : List Bi) (h : l.length ≤ 1000000) : SameZS.rel [zv n l, zv n l] [] (bv true) [] := ⟨n, l, h, rfl, rfl, rfl, rfl⟩
theorem SameB_at (n : Int) (m : List Bl) (h : m.length ≤ 1000000) : SameBS.rel [.agg [iv n, dN m], .agg [iv n, dN m]] [] (bv true) [] := by
  have := SameZ_at n (m.map toI) (by simpa using h)
  unfold zv at this
  rwa [dK_toI] at this
set_option maxHeartbeats 2000000 in
theorem SameB_ok : Ok Try.prog 13 SameBS := by
  refine fn_ok SameBS Try.func13 rfl rfl ?_
  rintro args ins res outs ⟨n, l, hl, rfl, rfl, rfl, rfl⟩
  refine ⟨by simp [Try.ntmps13], fun w0 V Bo mu0 => ?_⟩
  repeat' (first
    | (with_reducible first | refine W_seq ?_ | refine W_condT rfl ?_ | refine W_condF rfl ?_ | refine W_tf rfl (fun h => ?_) (fun h => ?_) | refine W_block ?_ | refine W_scope ?_ | refine endQ_ret ?_ | refine endQ_normal ?_)
    | ((with_reducible first | refine hK _ ?_ | refine hK _ _ ?_); clear hK K)
    | ((first | (with_reducible first | refine ops_cons (fun K hK => ?_) | refine opsd_cons (fun K hK => ?_) | refine ops_nil ?_ | refine fit_i64 (by omega) ?_ | refine fit_u8 (by omega) ?_ | refine fit_u64 (by omega) ?_ | refine fit_u32 (by omega) ?_ | refine fit_any ?_ | refine quo_nn (by omega) ?_ | refine rem_nn (by omega) ?_ | refine quo_any ?_ | refine rem_any ?_ | refine sh_in (by simp only [IntKind.bits]; omega) ?_) | ((with_reducible refine opsd_nil ?_); refine And.intro (by kernel_rfl) ?_) | with_reducible refine callV_snap ?_ | (with_reducible first | refine slice_old ?_ | refine app_grow ?_ | refine idx_map (by omega) ?_ | refine W_reg lv13BdAA ?_ | refine W_drw lv13BdAA (by kernel_rfl) ?_ | refine W_label ?_ | refine W_skip ?_ | refine W_exit ?_ | refine W_ret ?_ | refine end_at0 ?_) | (with_reducible refine And.intro (fun h => ?_) (fun h => ?_)) | (with_reducible refine And.intro (by omega) ?_)); (try simp only [go_sem, seval, reduceCtorEq, lv13BdAA, Try.ntmps13, Try.results13, SameBS]))
    | fail)
  refine W_loop (fun k : Nat => ⟨[(2, .ptr 0 0), (3, .ptr 1 0), (5, iv k)], [some (.box 24 [iv n, dK l]), some (.box 24 [iv n, dK l])]⟩) (fun k => k ≤ l.length) (fun k => l.length - k) 0 (Nat.zero_le _) [0, 1] ?_ ?_
  · simp [go_sem]
  intro k hk
  by_cases hlt : k < l.length
  · have hki : (k : Int) < l.length := by omega
    repeat' (first
      | (with_reducible first | refine W_seq ?_ | refine W_condT rfl ?_ | refine W_condF rfl ?_ | refine W_tf rfl (fun h => ?_) (fun h => ?_) | refine W_block ?_ | refine W_scope ?_ | refine endQ_ret ?_ | refine endQ_normal ?_)
      | ((with_reducible first | refine hK _ ?_ | refine hK _ _ ?_); clear hK K)
      | ((with_reducible refine And.intro eqt_block ?_); (try simp only [go_sem, seval, reduceCtorEq]))
      | ((first | (with_reducible first | refine ops_cons (fun K hK => ?_) | refine opsd_cons (fun K hK => ?_) | refine ops_nil ?_ | refine fit_i64 (by omega) ?_ | refine fit_u8 (by omega) ?_ | refine fit_u64 (by omega) ?_ | refine fit_u32 (by omega) ?_ | refine fit_any ?_ | refine quo_nn (by omega) ?_ | refine rem_nn (by omega) ?_ | refine quo_any ?_ | refine rem_any ?_ | refine sh_in (by simp only [IntKind.bits]; omega) ?_) | ((with_reducible refine opsd_nil ?_); refine And.intro (by kernel_rfl) ?_) | with_reducible refine callV_snap ?_ | (with_reducible first | refine slice_old ?_ | refine app_grow ?_ | refine idx_map (by omega) ?_ | refine W_reg lv13BdAA ?_ | refine W_drw lv13BdAA (by kernel_rfl) ?_ | refine W_label ?_ | refine W_skip ?_ | refine W_exit ?_ | refine W_ret ?_ | refine end_at0 ?_) | (with_reducible refine And.intro (fun h => ?_) (fun h => ?_)) | (with_reducible refine And.intro (by omega) ?_)); (try simp only [go_sem, seval, reduceCtorEq, encBk, hki, lv13BdAA, Try.ntmps13, Try.results13, SameBS]))
      | fail)
    refine ⟨k + 1, [0, 1], by omega, by omega, ?_⟩
    simp [go_sem]
  · have hki : ¬ (k : Int) < l.length := by omega
    repeat' (first
      | (with_reducible first | refine W_seq ?_ | refine W_condT rfl ?_ | refine W_condF rfl ?_ | refine W_tf rfl (fun h => ?_) (fun h => ?_) | refine W_block ?_ | refine W_scope ?_ | refine endQ_ret ?_ | refine endQ_normal ?_)
      | ((with_reducible first | refine hK _ ?_ | refine hK _ _ ?_); clear hK K)
      | ((first | (with_reducible first | refine ops_cons (fun K hK => ?_) | refine opsd_cons (fun K hK => ?_) | refine ops_nil ?_ | refine fit_i64 (by omega) ?_ | refine fit_u8 (by omega) ?_ | refine fit_u64 (by omega) ?_ | refine fit_u32 (by omega) ?_ | refine fit_any ?_ | refine quo_nn (by omega) ?_ | refine rem_nn (by omega) ?_ | refine quo_any ?_ | refine rem_any ?_ | refine sh_in (by simp only [IntKind.bits]; omega) ?_) | ((with_reducible refine opsd_nil ?_); refine And.intro (by kernel_rfl) ?_) | with_reducible refine callV_snap ?_ | (with_reducible first | refine slice_old ?_ | refine app_grow ?_ | refine idx_map (by omega) ?_ | refine W_reg lv13BdAA ?_ | refine W_drw lv13BdAA (by kernel_rfl) ?_ | refine W_label ?_ | refine W_skip ?_ | refine W_exit ?_ | refine W_ret ?_ | refine end_at0 ?_) | (with_reducible refine And.intro (fun h => ?_) (fun h => ?_)) | (with_reducible refine And.intro (by omega) ?_)); (try simp only [go_sem, seval, reduceCtorEq, hki, lv13BdAA, Try.ntmps13, Try.results13, SameBS]))
      | fail)
theorem SameZ_ok : Ok Try.prog 13 SameZS := SameB_ok

/-- the blocks as the laws write them -/
def flatB : List Bl → List Int
  | [] => []
  | b :: m => (b.1 : Int) :: (b.2 : Int) :: flatB m
theorem flatB_len : ∀ m : List Bl, (flatB m).length = 2 * m.length
  | [] => rfl
  | b :: m => by simp [flatB, flatB_len m]; omega
theorem flatB_get : ∀ (m : List Bl) (i : Nat) (h : i < m.length) (h1 : 2 * i < (flatB m).length) (h2 : 2 * i + 1 < (flatB m).length), (flatB m)[2 * i] = ((m[i]).1 : Int) ∧ (flatB m)[2 * i + 1] = ((m[i]).2 : Int)
  | b :: m, 0, h, _, _ => by simp [flatB]
  | b :: m, i + 1, h, h1, h2 => by
    have := flatB_get m i (by simpa using h) (by rw [flatB_len]; simp at h; omega) (by rw [flatB_len]; simp at h; omega)
    have e1 : 2 * (i + 1) = 2 * i + 1 + 1 := by omega
    simp only [flatB, e1, List.getElem_cons_succ]
    exact this
def freeLS : Spec := { rel := fun args ins res outs => ∃ (N : Nat) (m : List Bl), m.length ≤ 1000 ∧ args = [.agg [iv N, dN m], dI (flatB m)] ∧ ins = [] ∧ res = bv true ∧ outs = [] }
theorem freeL_at (N : Nat) (m : List Bl) (h : m.length ≤ 1000) : freeLS.rel [.agg [iv N, dN m], dI (flatB m)] [] (bv true) [] := ⟨N, m, h, rfl, rfl, rfl, rfl⟩
set_option maxHeartbeats 2000000 in
theorem freeL_ok : Ok Try.prog 32 freeLS := by
  refine fn_ok freeLS Try.func32 rfl rfl ?_
  rintro args ins res outs ⟨N, m, hl, rfl, rfl, rfl, rfl⟩
  refine ⟨by simp [Try.ntmps32], fun w0 V Bo mu0 => ?_⟩
  have hfl := flatB_len m
  have h2l : 2 * (m.length : Int) = ((2 * m.length : Nat) : Int) := by omega
  repeat' (first
    | (with_reducible first | refine W_seq ?_ | refine W_condT rfl ?_ | refine W_condF rfl ?_ | refine W_tf rfl (fun h => ?_) (fun h => ?_) | refine W_block ?_ | refine W_scope ?_ | refine endQ_ret ?_ | refine endQ_normal ?_)
    | ((with_reducible first | refine hK _ ?_ | refine hK _ _ ?_); clear hK K)
    | ((first | (with_reducible first | refine ops_cons (fun K hK => ?_) | refine opsd_cons (fun K hK => ?_) | refine ops_nil ?_ | refine fit_i64 (by omega) ?_ | refine fit_u8 (by omega) ?_ | refine fit_u64 (by omega) ?_ | refine fit_u32 (by omega) ?_ | refine fit_any ?_ | refine quo_nn (by omega) ?_ | refine rem_nn (by omega) ?_ | refine quo_any ?_ | refine rem_any ?_ | refine sh_in (by simp only [IntKind.bits]; omega) ?_) | ((with_reducible refine opsd_nil ?_); refine And.intro (by kernel_rfl) ?_) | with_reducible refine callV_snap ?_ | (with_reducible first | refine slice_old ?_ | refine app_grow ?_ | refine idx_map (by omega) ?_ | refine W_reg lv32BdAA ?_ | refine W_drw lv32BdAA (by kernel_rfl) ?_ | refine W_label ?_ | refine W_skip ?_ | refine W_exit ?_ | refine W_ret ?_ | refine end_at0 ?_) | (with_reducible refine And.intro (fun h => ?_) (fun h => ?_)) | (with_reducible refine And.intro (by omega) ?_)); (try simp only [go_sem, seval, reduceCtorEq, hfl, h2l, lv32BdAA, Try.ntmps32, Try.results32, freeLS]))
    | fail)
  refine W_loop (fun k : Nat => ⟨[(1, dI (flatB m)), (2, .ptr 0 0), (5, iv k)], [some (.box 24 [iv N, dN m])]⟩) (fun k => k ≤ m.length) (fun k => m.length - k) 0 (Nat.zero_le _) [0] ?_ ?_
  · simp [go_sem]
  intro k hk
  by_cases hlt : k < m.length
  · have hki : (k : Int) < m.length := by omega
    have e1 : 2 * (k : Int) = ((2 * k : Nat) : Int) := by omega
    have e2 : ((2 * k : Nat) : Int) + 1 = ((2 * k + 1 : Nat) : Int) := by omega
    have l1 : 2 * k < (flatB m).length := by omega
    have l2 : 2 * k + 1 < (flatB m).length := by omega
    have l1' : ((2 * k : Nat) : Int) < ((2 * m.length : Nat) : Int) := by omega
    have l2' : ((2 * k + 1 : Nat) : Int) < ((2 * m.length : Nat) : Int) := by omega
    obtain ⟨g1, g2⟩ := flatB_get m k hlt l1 l2
    have k1 : encDI ((flatB m)[2 * k]) = [.int .i64 ((m[k]).1 : Int)] := by rw [g1]; rfl
    have k2 : encDI ((flatB m)[2 * k + 1]) = [.int .i64 ((m[k]).2 : Int)] := by rw [g2]; rfl
    repeat' (first
      | (with_reducible first | refine W_seq ?_ | refine W_condT rfl ?_ | refine W_condF rfl ?_ | refine W_tf rfl (fun h => ?_) (fun h => ?_) | refine W_block ?_ | refine W_scope ?_ | refine endQ_ret ?_ | refine endQ_normal ?_)
      | ((with_reducible first | refine hK _ ?_ | refine hK _ _ ?_); clear hK K)
      | ((first | (with_reducible first | refine ops_cons (fun K hK => ?_) | refine opsd_cons (fun K hK => ?_) | refine ops_nil ?_ | refine fit_i64 (by omega) ?_ | refine fit_u8 (by omega) ?_ | refine fit_u64 (by omega) ?_ | refine fit_u32 (by omega) ?_ | refine fit_any ?_ | refine quo_nn (by omega) ?_ | refine rem_nn (by omega) ?_ | refine quo_any ?_ | refine rem_any ?_ | refine sh_in (by simp only [IntKind.bits]; omega) ?_) | ((with_reducible refine opsd_nil ?_); refine And.intro (by kernel_rfl) ?_) | with_reducible refine callV_snap ?_ | (with_reducible first | refine slice_old ?_ | refine app_grow ?_ | refine idx_map (by omega) ?_ | refine W_reg lv32BdAA ?_ | refine W_drw lv32BdAA (by kernel_rfl) ?_ | refine W_label ?_ | refine W_skip ?_ | refine W_exit ?_ | refine W_ret ?_ | refine end_at0 ?_) | (with_reducible refine And.intro (fun h => ?_) (fun h => ?_)) | (with_reducible refine And.intro (by omega) ?_)); (try simp only [go_sem, seval, reduceCtorEq, hki, encN, hfl, e1, e2, l1', l2', k1, k2, lv32BdAA, Try.ntmps32, Try.results32, freeLS]))
      | fail)
    refine ⟨k + 1, [0], by omega, by omega, ?_⟩
    simp [go_sem]
  · have hki : ¬ (k : Int) < m.length := by omega
    repeat' (first
      | (with_reducible first | refine W_seq ?_ | refine W_condT rfl ?_ | refine W_condF rfl ?_ | refine W_tf rfl (fun h => ?_) (fun h => ?_) | refine W_block ?_ | refine W_scope ?_ | refine endQ_ret ?_ | refine endQ_normal ?_)
      | ((with_reducible first | refine hK _ ?_ | refine hK _ _ ?_); clear hK K)
      | ((first | (with_reducible first | refine ops_cons (fun K hK => ?_) | refine opsd_cons (fun K hK => ?_) | refine ops_nil ?_ | refine fit_i64 (by omega) ?_ | refine fit_u8 (by omega) ?_ | refine fit_u64 (by omega) ?_ | refine fit_u32 (by omega) ?_ | refine fit_any ?_ | refine quo_nn (by omega) ?_ | refine rem_nn (by omega) ?_ | refine quo_any ?_ | refine rem_any ?_ | refine sh_in (by simp only [IntKind.bits]; omega) ?_) | ((with_reducible refine opsd_nil ?_); refine And.intro (by kernel_rfl) ?_) | with_reducible refine callV_snap ?_ | (with_reducible first | refine slice_old ?_ | refine app_grow ?_ | refine idx_map (by omega) ?_ | refine W_reg lv32BdAA ?_ | refine W_drw lv32BdAA (by kernel_rfl) ?_ | refine W_label ?_ | refine W_skip ?_ | refine W_exit ?_ | refine W_ret ?_ | refine end_at0 ?_) | (with_reducible refine And.intro (fun h => ?_) (fun h => ?_)) | (with_reducible refine And.intro (by omega) ?_)); (try simp only [go_sem, seval, reduceCtorEq, hki, lv32BdAA, Try.ntmps32, Try.results32, freeLS]))
      | fail)

theorem toI_inj : ∀ m m' : List Bl, m.map toI = m'.map toI → m = m'
  | [], [], _ => rfl
  | [], _ :: _, h => by simp at h
  | _ :: _, [], h => by simp at h
  | (a, o) :: m, (a', o') :: m', h => by
    simp only [List.map_cons, List.cons.injEq, toI, Prod.mk.injEq] at h
    obtain ⟨⟨h1, h2⟩, h3⟩ := h
    rw [toI_inj m m' h3, show a = a' by omega, show o = o' by omega]
theorem vz_chk {N : Nat} {m : List Bl} (h : zchk N (m.map toI) = (0, 0)) : Vz N m := by
  obtain ⟨N', m', h1, h2, hv⟩ := vz_of (show (zchk N (m.map toI)).1 = 0 by rw [h])
  have e1 : N = N' := by omega
  have e2 := toI_inj _ _ h2
  subst e1 e2
  exact hv
def m0 : List Bl := [(0, 3), (8, 1), (10, 0)]
def mA : List Bl := [(0, 3), (8, 1)]
def mB : List Bl := [(0, 3), (9, 0)]
def mC : List Bl := [(2, 1), (4, 2), (9, 0)]
theorem v0 : Vz 11 m0 := vz_chk (by decide +kernel)
theorem vA : Vz 11 mA := vz_chk (by decide +kernel)
theorem vB : Vz 11 mB := vz_chk (by decide +kernel)
theorem vC : Vz 11 mC := vz_chk (by decide +kernel)
theorem alloc_at' {N : Nat} {m m' : List Bl} {k : Nat} {b : Bl} (hv : Vz N m) (hk : k ≤ 6) (hb : Best m k b) (h : bld N (frA m b.1 k) = m') : AllocFS.rel [.agg [iv N, dN m], iv k] [] (.tup [.agg [iv N, dN m'], iv b.1, iv 0]) [] := by
  subst h
  exact ⟨rfl, rfl, _, _, .inr (.inr ⟨N, m, k, b, hv, hk, hb, rfl, rfl, rfl, rfl⟩), frz_z N _ _ [.int .i64 (b.1 : Int), .int .i64 0] rfl⟩
theorem free_at' {N : Nat} {m m' : List Bl} {w k : Nat} (hv : Vz N m) (hb : OkB N (w, k)) (hn : Nofr m w k) (h : bld N (frF m w k) = m') : FreeFS.rel [.agg [iv N, dN m], iv w, iv k] [] (.tup [.agg [iv N, dN m'], iv 0]) [] := by
  subst h
  exact ⟨rfl, rfl, _, _, .inr (.inr ⟨N, m, w, k, ⟨hv, hb⟩, hn, rfl, rfl, rfl, rfl⟩), frz_z N _ _ [.int .i64 0] rfl⟩
end Go.Proofs.Ytniiaaagammebaa
