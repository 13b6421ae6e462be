import Derived.Test.YtacfipmigkbncaaBdZ

/- Helpers of the laws about zones; the examples that every law asks for; BuddyChanges; by the engine. -/
namespace Go.Proofs.Ytacfipmigkbncaa
open Go.RowKit
set_option maxRecDepth 100000
set_option linter.unusedSimpArgs false
set_option linter.unusedVariables false

abbrev lv19BdAD : List (Nat × List Nat) := [(0, [0, 1]), (1, [0, 1, 10]), (2, [4]), (3, [0, 1, 5]), (4, [0, 1, 5, 14]), (5, [0, 1, 5]), (6, [0, 1, 5, 25]), (7, [4]), (8, [4])]
abbrev lv44BdAD : List (Nat × List Nat) := [(0, [2, 3]), (1, [2, 3, 19]), (2, [4]), (3, [2, 3, 5]), (4, [2, 3, 5, 24]), (5, [2, 3, 5]), (6, [2, 3, 5, 37]), (7, [4]), (8, [4])]
def OwnBS : Spec := { rel := fun args ins res outs => ∃ (n : Int) (l : List Bi), l.length ≤ 1000000 ∧ args = [zv n l] ∧ ins = [] ∧ res = .agg [iv n, .row 0 2 0 l.length] ∧ outs = [.rows 87 2 (l.map encBk)] }
theorem OwnB_ok : Ok Try.prog 38 OwnBS := by
  refine fn_ok OwnBS Try.func38 rfl rfl ?_
  rintro args ins res outs ⟨n, l, hl, rfl, rfl, rfl, rfl⟩
  refine ⟨by simp [Try.ntmps38], fun w0 V Bo mu0 => ?_⟩
  repeat' (first
    | (with_reducible first | refine W_seq ?_ | refine endQ_ret ?_ | refine endQ_normal ?_)
    | ((with_reducible first | refine hK _ ?_ | refine hK _ _ ?_); clear hK K)
    | ((with_reducible refine And.intro (encBke.rows _) ?_))
    | ((first | (with_reducible first | refine ops_cons (fun K hK => ?_) | refine opsd_cons (fun K hK => ?_) | refine ops_nil ?_) | ((with_reducible refine opsd_nil ?_); refine And.intro (by kernel_rfl) ?_) | with_reducible refine callV_snap ?_ | (with_reducible first | refine app_grow ?_ | refine W_reg [(0, [1, 2]), (1, [2])] ?_ | refine W_drw [(0, [1, 2]), (1, [2])] (by kernel_rfl) ?_ | refine end_at0 ?_) | (with_reducible refine And.intro (fun h => ?_) (fun h => ?_)) | (with_reducible refine And.intro (by omega) ?_)); (try simp only [go_sem, seval, reduceCtorEq, Try.ntmps38, Try.results38, OwnBS]))
    | fail)
  refine W_ret (endQ_ret (end_at [3] ?_))
  have := encBke.flat l
  simp [go_sem, Try.results38, OwnBS]
  simpa [flatD, encBk] using this
def OwnBFS : Spec := { al := true, rel := fun args ins res outs => ∃ (n : Int) (l : List Bi), l.length ≤ 1000000 ∧ args = [zv n l] ∧ ins = [] ∧ res = zv n l ∧ outs = [] }
theorem OwnBF_at (n : Int) (l : List Bi) (h : l.length ≤ 1000000) : OwnBFS.rel [zv n l] [] (zv n l) [] := ⟨n, l, h, rfl, rfl, rfl, rfl⟩
theorem OwnBF_ok : Ok Try.prog 38 OwnBFS := by
  refine ok_frz OwnB_ok OwnBFS rfl ?_
  rintro args ins res outs ⟨n, l, hl, rfl, rfl, rfl, rfl⟩
  exact ⟨rfl, rfl, _, _, ⟨n, l, hl, rfl, rfl, rfl, rfl⟩, by simp [frz, frzA, frzL, frz1, List.take_of_length_le]⟩
def SameBS : Spec := { rel := fun args ins res outs => ∃ (n : Int) (l : List Bi), l.length ≤ 1000000 ∧ args = [zv n l, zv n l] ∧ ins = [] ∧ res = bv true ∧ outs = [] }
abbrev SameZS : Spec := SameBS
theorem SameZ_at (n : Int) (l : List Bi) (h : l.length ≤ 1000000) : SameZS.rel [zv n l, zv n l] [] (bv true) [] := ⟨n, l, h, rfl, rfl, rfl, rfl⟩
theorem SameB_at (n : Int) (m : List Bl) (h : m.length ≤ 1000000) : SameBS.rel [.agg [iv n, dN m], .agg [iv n, dN m]] [] (bv true) [] := by
  have := SameZ_at n (m.map toI) (by simpa using h)
  unfold zv at this
  rwa [dK_toI] at this
set_option maxHeartbeats 2000000 in
theorem SameB_ok : Ok Try.prog 44 SameBS := by
  refine fn_ok SameBS Try.func44 rfl rfl ?_
  rintro args ins res outs ⟨n, l, hl, rfl, rfl, rfl, rfl⟩
  refine ⟨by simp [Try.ntmps44], fun w0 V Bo mu0 => ?_⟩
  repeat' (first
    | (with_reducible first | refine W_seq ?_ | refine W_condT rfl ?_ | refine W_condF rfl ?_ | refine W_tf rfl (fun h => ?_) (fun h => ?_) | refine W_block ?_ | refine endQ_ret ?_ | refine endQ_normal ?_)
    | ((with_reducible first | refine hK _ ?_ | refine hK _ _ ?_); clear hK K)
    | ((first | (with_reducible first | refine ops_cons (fun K hK => ?_) | refine opsd_cons (fun K hK => ?_) | refine ops_nil ?_ | refine fit_i64 (by omega) ?_ | refine fit_any ?_) | ((with_reducible refine opsd_nil ?_); refine And.intro (by kernel_rfl) ?_) | with_reducible refine callV_snap ?_ | (with_reducible first | refine idx_map (by omega) ?_ | refine W_reg lv44BdAD ?_ | refine W_drw lv44BdAD (by kernel_rfl) ?_ | refine W_skip ?_ | refine W_exit ?_ | refine W_ret ?_ | refine end_at0 ?_) | (with_reducible refine And.intro (fun h => ?_) (fun h => ?_)) | (with_reducible refine And.intro (by omega) ?_)); (try simp only [go_sem, seval, reduceCtorEq, lv44BdAD, Try.ntmps44, Try.results44, SameBS]))
    | fail)
  refine W_loop (fun k : Nat => ⟨[(2, .ptr 0 0), (3, .ptr 1 0), (5, iv k)], [some (.box 59 [iv n, dK l]), some (.box 59 [iv n, dK l])]⟩) (fun k => k ≤ l.length) (fun k => l.length - k) 0 (Nat.zero_le _) [0, 1] ?_ ?_
  · simp [go_sem]
  intro k hk
  by_cases hlt : k < l.length
  · have hki : (k : Int) < l.length := by omega
    repeat' (first
      | (with_reducible first | refine W_seq ?_ | refine W_condT rfl ?_ | refine W_condF rfl ?_ | refine W_tf rfl (fun h => ?_) (fun h => ?_) | refine W_block ?_ | refine endQ_ret ?_ | refine endQ_normal ?_)
      | ((with_reducible first | refine hK _ ?_ | refine hK _ _ ?_); clear hK K)
      | ((with_reducible refine And.intro eqt_block ?_); (try simp only [go_sem, seval, reduceCtorEq]))
      | ((first | (with_reducible first | refine ops_cons (fun K hK => ?_) | refine opsd_cons (fun K hK => ?_) | refine ops_nil ?_ | refine fit_i64 (by omega) ?_ | refine fit_any ?_) | ((with_reducible refine opsd_nil ?_); refine And.intro (by kernel_rfl) ?_) | with_reducible refine callV_snap ?_ | (with_reducible first | refine idx_map (by omega) ?_ | refine W_reg lv44BdAD ?_ | refine W_drw lv44BdAD (by kernel_rfl) ?_ | refine W_skip ?_ | refine W_exit ?_ | refine W_ret ?_ | refine end_at0 ?_) | (with_reducible refine And.intro (fun h => ?_) (fun h => ?_)) | (with_reducible refine And.intro (by omega) ?_)); (try simp only [go_sem, seval, reduceCtorEq, encBk, hki, lv44BdAD, Try.ntmps44, Try.results44, SameBS]))
      | fail)
    refine ⟨k + 1, [0, 1], by omega, by omega, ?_⟩
    simp [go_sem]
  · have hki : ¬ (k : Int) < l.length := by omega
    repeat' (first
      | (with_reducible first | refine W_seq ?_ | refine W_condT rfl ?_ | refine W_condF rfl ?_ | refine W_tf rfl (fun h => ?_) (fun h => ?_) | refine W_block ?_ | refine endQ_ret ?_ | refine endQ_normal ?_)
      | ((with_reducible first | refine hK _ ?_ | refine hK _ _ ?_); clear hK K)
      | ((first | (with_reducible first | refine ops_cons (fun K hK => ?_) | refine opsd_cons (fun K hK => ?_) | refine ops_nil ?_ | refine fit_i64 (by omega) ?_ | refine fit_any ?_) | ((with_reducible refine opsd_nil ?_); refine And.intro (by kernel_rfl) ?_) | with_reducible refine callV_snap ?_ | (with_reducible first | refine idx_map (by omega) ?_ | refine W_reg lv44BdAD ?_ | refine W_drw lv44BdAD (by kernel_rfl) ?_ | refine W_skip ?_ | refine W_exit ?_ | refine W_ret ?_ | refine end_at0 ?_) | (with_reducible refine And.intro (fun h => ?_) (fun h => ?_)) | (with_reducible refine And.intro (by omega) ?_)); (try simp only [go_sem, seval, reduceCtorEq, hki, lv44BdAD, Try.ntmps44, Try.results44, SameBS]))
      | fail)
theorem SameZ_ok : Ok Try.prog 44 SameZS := SameB_ok

/-- the blocks as the laws write them -/
def flatB : List Bl → List Int
  | [] => []
  | b :: m => (b.1 : Int) :: (b.2 : Int) :: flatB m
theorem flatB_len : ∀ m : List Bl, (flatB m).length = 2 * m.length
  | [] => rfl
  | b :: m => by simp [flatB, flatB_len m]; omega
theorem flatB_get : ∀ (m : List Bl) (i : Nat) (h : i < m.length) (h1 : 2 * i < (flatB m).length) (h2 : 2 * i + 1 < (flatB m).length), (flatB m)[2 * i] = ((m[i]).1 : Int) ∧ (flatB m)[2 * i + 1] = ((m[i]).2 : Int)
  | b :: m, 0, h, _, _ => by simp [flatB]
  | b :: m, i + 1, h, h1, h2 => by
    have := flatB_get m i (by simpa using h) (by rw [flatB_len]; simp at h; omega) (by rw [flatB_len]; simp at h; omega)
    have e1 : 2 * (i + 1) = 2 * i + 1 + 1 := by omega
    simp only [flatB, e1, List.getElem_cons_succ]
    exact this
def freeLS : Spec := { rel := fun args ins res outs => ∃ (N : Nat) (m : List Bl), m.length ≤ 1000 ∧ args = [.agg [iv N, dN m], dI (flatB m)] ∧ ins = [] ∧ res = bv true ∧ outs = [] }
theorem freeL_at (N : Nat) (m : List Bl) (h : m.length ≤ 1000) : freeLS.rel [.agg [iv N, dN m], dI (flatB m)] [] (bv true) [] := ⟨N, m, h, rfl, rfl, rfl, rfl⟩

theorem toI_inj : ∀ m m' : List Bl, m.map toI = m'.map toI → m = m'
  | [], [], _ => rfl
  | [], _ :: _, h => by simp at h
  | _ :: _, [], h => by simp at h
  | (a, o) :: m, (a', o') :: m', h => by
    simp only [List.map_cons, List.cons.injEq, toI, Prod.mk.injEq] at h
    obtain ⟨⟨h1, h2⟩, h3⟩ := h
    rw [toI_inj m m' h3, show a = a' by omega, show o = o' by omega]
theorem vz_chk {N : Nat} {m : List Bl} (h : zchk N (m.map toI) = (0, 0)) : Vz N m := by
  obtain ⟨N', m', h1, h2, hv⟩ := vz_of (show (zchk N (m.map toI)).1 = 0 by rw [h])
  have e1 : N = N' := by omega
  have e2 := toI_inj _ _ h2
  subst e1 e2
  exact hv
def m0 : List Bl := [(0, 3), (8, 1), (10, 0)]
def mA : List Bl := [(0, 3), (8, 1)]
def mB : List Bl := [(0, 3), (9, 0)]
def mC : List Bl := [(2, 1), (4, 2), (9, 0)]
theorem v0 : Vz 11 m0 := vz_chk (by decide +kernel)
theorem vA : Vz 11 mA := vz_chk (by decide +kernel)
theorem vB : Vz 11 mB := vz_chk (by decide +kernel)
theorem vC : Vz 11 mC := vz_chk (by decide +kernel)
theorem alloc_at' {N : Nat} {m m' : List Bl} {k : Nat} {b : Bl} (hv : Vz N m) (hk : k ≤ 6) (hb : Best m k b) (h : bld N (frA m b.1 k) = m') : AllocFS.rel [.agg [iv N, dN m], iv k] [] (.tup [.agg [iv N, dN m'], iv b.1, iv 0]) [] := by
  subst h
  exact ⟨rfl, rfl, _, _, .inr (.inr ⟨N, m, k, b, hv, hk, hb, rfl, rfl, rfl, rfl⟩), frz_z N _ _ [.int .i64 (b.1 : Int), .int .i64 0] rfl⟩
theorem free_at' {N : Nat} {m m' : List Bl} {w k : Nat} (hv : Vz N m) (hb : OkB N (w, k)) (hn : Nofr m w k) (h : bld N (frF m w k) = m') : FreeFS.rel [.agg [iv N, dN m], iv w, iv k] [] (.tup [.agg [iv N, dN m'], iv 0]) [] := by
  subst h
  exact ⟨rfl, rfl, _, _, .inr (.inr ⟨N, m, w, k, ⟨hv, hb⟩, hn, rfl, rfl, rfl, rfl⟩), frz_z N _ _ [.int .i64 0] rfl⟩
end Go.Proofs.Ytacfipmigkbncaa

/- The chapter's zone; the examples that every law about zones asks for; BuddyChanges; by the engine. -/
namespace Go.Proofs.Ytacfipmigkbncaa
open Go.RowKit
set_option maxRecDepth 100000
set_option linter.unusedSimpArgs false
set_option linter.unusedVariables false

def mD : List Bl := [(2, 1), (4, 2), (8, 1), (10, 0)]
def mE : List Bl := [(2, 1), (4, 2), (9, 0), (10, 0)]
theorem vE : Vz 11 mE := vz_chk (by decide +kernel)
theorem b_new : bld 11 (fun i => decide (i < 11)) = m0 := by decide +kernel
abbrev ze (m : List Bl) : AV := .agg [iv 11, dN m]
abbrev NewEFS : Spec := NewFS
theorem NewEF_ok : Ok Try.prog 46 NewEFS := NewF_ok
theorem NewEF_at : NewEFS.rel [iv 11] [] (.tup [ze m0, iv 0]) [] := by
  have : (frzS NewS).rel [iv ((11 : Nat) : Int)] [] (.tup [.agg [iv ((11 : Nat) : Int), dN (bld 11 (fun i => decide (i < 11)))], iv 0]) [] := ⟨rfl, rfl, _, _, .inr ⟨11, by decide, rfl, rfl, rfl, rfl⟩, frz_z 11 _ _ [.int .i64 0] rfl⟩
  rw [b_new] at this
  exact this
abbrev fm0S : Spec := freeLS
theorem fm0_at : fm0S.rel [ze m0, .d (.sl [[.int .i64 0], [.int .i64 3], [.int .i64 8], [.int .i64 1], [.int .i64 10], [.int .i64 0]])] [] (bv true) [] := freeL_at 11 m0 (by decide)
abbrev fmAS : Spec := freeLS
theorem fmA_at : fmAS.rel [ze mA, .d (.sl [[.int .i64 0], [.int .i64 3], [.int .i64 8], [.int .i64 1]])] [] (bv true) [] := freeL_at 11 mA (by decide)
abbrev fmBS : Spec := freeLS
theorem fmB_at : fmBS.rel [ze mB, .d (.sl [[.int .i64 0], [.int .i64 3], [.int .i64 9], [.int .i64 0]])] [] (bv true) [] := freeL_at 11 mB (by decide)
abbrev fmCS : Spec := freeLS
theorem fmC_at : fmCS.rel [ze mC, .d (.sl [[.int .i64 2], [.int .i64 1], [.int .i64 4], [.int .i64 2], [.int .i64 9], [.int .i64 0]])] [] (bv true) [] := freeL_at 11 mC (by decide)
abbrev fmDS : Spec := freeLS
theorem fmD_at : fmDS.rel [ze mD, .d (.sl [[.int .i64 2], [.int .i64 1], [.int .i64 4], [.int .i64 2], [.int .i64 8], [.int .i64 1], [.int .i64 10], [.int .i64 0]])] [] (bv true) [] := freeL_at 11 mD (by decide)
abbrev al0S : Spec := AllocFS
theorem al0_ok : Ok Try.prog 66 al0S := AllocF_ok
theorem al0_at : al0S.rel [ze m0, iv 0] [] (.tup [ze mA, iv 10, iv 0]) [] := alloc_at' (N := 11) (k := 0) (b := (10, 0)) v0 (by decide) ⟨by decide, by decide, by decide, by decide⟩ (by decide +kernel)
abbrev al1S : Spec := AllocFS
theorem al1_ok : Ok Try.prog 66 al1S := AllocF_ok
theorem al1_at : al1S.rel [ze mA, iv 0] [] (.tup [ze mB, iv 8, iv 0]) [] := alloc_at' (N := 11) (k := 0) (b := (8, 1)) vA (by decide) ⟨by decide, by decide, by decide, by decide⟩ (by decide +kernel)
abbrev al2S : Spec := AllocFS
theorem al2_ok : Ok Try.prog 66 al2S := AllocF_ok
theorem al2_at : al2S.rel [ze mB, iv 1] [] (.tup [ze mC, iv 0, iv 0]) [] := alloc_at' (N := 11) (k := 1) (b := (0, 3)) vB (by decide) ⟨by decide, by decide, by decide, by decide⟩ (by decide +kernel)
abbrev fe1S : Spec := FreeFS
theorem fe1_ok : Ok Try.prog 62 fe1S := FreeF_ok
theorem fe1_at : fe1S.rel [ze mC, iv 10, iv 0] [] (.tup [ze mE, iv 0]) [] := by
  have hb : OkB 11 (10, 0) := by unfold OkB; decide
  exact free_at' (N := 11) (w := 10) (k := 0) vC hb ((nofr_iff ⟨vC, hb⟩).2 (by decide)) (by decide +kernel)
abbrev fe2S : Spec := FreeFS
theorem fe2_ok : Ok Try.prog 62 fe2S := FreeF_ok
theorem fe2_at : fe2S.rel [ze mE, iv 8, iv 0] [] (.tup [ze mD, iv 0]) [] := by
  have hb : OkB 11 (8, 0) := by unfold OkB; decide
  exact free_at' (N := 11) (w := 8) (k := 0) vE hb ((nofr_iff ⟨vE, hb⟩).2 (by decide)) (by decide +kernel)
def elevS : Spec := { al := true, rel := fun args ins res outs => args = [] ∧ ins = [] ∧ res = .tup [ze m0, bv true] ∧ outs = [] }
theorem elev_at : elevS.rel [] [] (.tup [ze m0, bv true]) [] := ⟨rfl, rfl, rfl, rfl⟩
def threeS : Spec := { al := true, rel := fun args ins res outs => args = [] ∧ ins = [] ∧ res = .tup [ze mC, bv true] ∧ outs = [] }
theorem three_at : threeS.rel [] [] (.tup [ze mC, bv true]) [] := ⟨rfl, rfl, rfl, rfl⟩
def awakeS : Spec := { rel := fun args ins res outs => args = [] ∧ ins = [] ∧ res = bv true ∧ outs = [] }
theorem awake_at : awakeS.rel [] [] (bv true) [] := ⟨rfl, rfl, rfl, rfl⟩

def chgS : Spec := { rel := fun args ins res outs => ∃ (n : Int) (l : List Bi) (k a : Int), l.length ≤ 9223372036854775807 ∧ args = [zv n l, iv k, iv a] ∧ ins = [] ∧ res = bv true ∧ outs = [] }
end Go.Proofs.Ytacfipmigkbncaa

/- BuddyChecks, by the engine. -/
namespace Go.Proofs.Ytacfipmigkbncaa
open Go.RowKit
set_option maxRecDepth 100000
set_option linter.unusedSimpArgs false
set_option linter.unusedVariables false

def SameIS : Spec := { rel := fun args ins res outs => ∃ c : List Int, c.length ≤ 1000000 ∧ args = [dI c, dI c] ∧ ins = [] ∧ res = bv true ∧ outs = [] }
theorem SameI_at (c : List Int) (h : c.length ≤ 1000000) : SameIS.rel [dI c, dI c] [] (bv true) [] := ⟨c, h, rfl, rfl, rfl, rfl⟩
set_option maxHeartbeats 1000000 in
theorem SameI_ok : Ok Try.prog 19 SameIS := by
  refine fn_ok SameIS Try.func19 rfl rfl ?_
  rintro args ins res outs ⟨l, hl, rfl, rfl, rfl, rfl⟩
  refine ⟨by simp [Try.ntmps19], fun w0 V Bo mu0 => ?_⟩
  repeat' (first
    | (with_reducible first | refine W_seq ?_ | refine W_condT rfl ?_ | refine W_condF rfl ?_ | refine W_tf rfl (fun h => ?_) (fun h => ?_) | refine W_block ?_ | refine endQ_ret ?_ | refine endQ_normal ?_)
    | ((with_reducible first | refine hK _ ?_ | refine hK _ _ ?_); clear hK K)
    | ((first | (with_reducible first | refine ops_cons (fun K hK => ?_) | refine opsd_cons (fun K hK => ?_) | refine ops_nil ?_ | refine fit_i64 (by omega) ?_ | refine fit_any ?_) | ((with_reducible refine opsd_nil ?_); refine And.intro (by kernel_rfl) ?_) | with_reducible refine callV_snap ?_ | (with_reducible first | refine idx_map (by omega) ?_ | refine W_reg lv19BdAD ?_ | refine W_drw lv19BdAD (by kernel_rfl) ?_ | refine W_skip ?_ | refine W_exit ?_ | refine W_ret ?_ | refine end_at0 ?_) | (with_reducible refine And.intro (fun h => ?_) (fun h => ?_)) | (with_reducible refine And.intro (by omega) ?_)); (try simp only [go_sem, seval, reduceCtorEq, lv19BdAD, Try.ntmps19, Try.results19, SameIS]))
    | fail)
  refine W_loop (fun k : Nat => ⟨[(0, dI l), (1, dI l), (5, iv k)], []⟩) (fun k => k ≤ l.length) (fun k => l.length - k) 0 (Nat.zero_le _) [] ?_ ?_
  · simp [go_sem]
  intro k hk
  by_cases hlt : k < l.length
  · have hki : (k : Int) < l.length := by omega
    repeat' (first
      | (with_reducible first | refine W_seq ?_ | refine W_condT rfl ?_ | refine W_condF rfl ?_ | refine W_tf rfl (fun h => ?_) (fun h => ?_) | refine W_block ?_ | refine endQ_ret ?_ | refine endQ_normal ?_)
      | ((with_reducible first | refine hK _ ?_ | refine hK _ _ ?_); clear hK K)
      | ((first | (with_reducible first | refine ops_cons (fun K hK => ?_) | refine opsd_cons (fun K hK => ?_) | refine ops_nil ?_ | refine fit_i64 (by omega) ?_ | refine fit_any ?_) | ((with_reducible refine opsd_nil ?_); refine And.intro (by kernel_rfl) ?_) | with_reducible refine callV_snap ?_ | (with_reducible first | refine idx_map (by omega) ?_ | refine W_reg lv19BdAD ?_ | refine W_drw lv19BdAD (by kernel_rfl) ?_ | refine W_skip ?_ | refine W_exit ?_ | refine W_ret ?_ | refine end_at0 ?_) | (with_reducible refine And.intro (fun h => ?_) (fun h => ?_)) | (with_reducible refine And.intro (by omega) ?_)); (try simp only [go_sem, seval, reduceCtorEq, encDI, hki, lv19BdAD, Try.ntmps19, Try.results19, SameIS]))
      | fail)
    refine ⟨k + 1, [], by omega, by omega, ?_⟩
    simp [go_sem]
  · have hki : ¬ (k : Int) < l.length := by omega
    repeat' (first
      | (with_reducible first | refine W_seq ?_ | refine W_condT rfl ?_ | refine W_condF rfl ?_ | refine W_tf rfl (fun h => ?_) (fun h => ?_) | refine W_block ?_ | refine endQ_ret ?_ | refine endQ_normal ?_)
      | ((with_reducible first | refine hK _ ?_ | refine hK _ _ ?_); clear hK K)
      | ((first | (with_reducible first | refine ops_cons (fun K hK => ?_) | refine opsd_cons (fun K hK => ?_) | refine ops_nil ?_ | refine fit_i64 (by omega) ?_ | refine fit_any ?_) | ((with_reducible refine opsd_nil ?_); refine And.intro (by kernel_rfl) ?_) | with_reducible refine callV_snap ?_ | (with_reducible first | refine idx_map (by omega) ?_ | refine W_reg lv19BdAD ?_ | refine W_drw lv19BdAD (by kernel_rfl) ?_ | refine W_skip ?_ | refine W_exit ?_ | refine W_ret ?_ | refine end_at0 ?_) | (with_reducible refine And.intro (fun h => ?_) (fun h => ?_)) | (with_reducible refine And.intro (by omega) ?_)); (try simp only [go_sem, seval, reduceCtorEq, hki, lv19BdAD, Try.ntmps19, Try.results19, SameIS]))
      | fail)

theorem tot_ex (n : Int) (l : List Bi) (hl : l.length ≤ 1000000) : ∃ a e : Int, TotS.rel [zv n l] [] (.tup [iv a, iv e]) [] := by
  by_cases h : (zchk n l).1 = 0
  · obtain ⟨N, m, rfl, rfl, hv⟩ := vz_of h
    rw [zv_toI]
    exact ⟨_, _, Tot_at N m hv⟩
  · exact ⟨_, _, TotN_at n l hl h⟩
theorem most_ex (n : Int) (l : List Bi) (k : Int) (hl : l.length ≤ 1000000) : ∃ a e : Int, MostS.rel [zv n l, iv k] [] (.tup [iv a, iv e]) [] := by
  by_cases h : askE n l k = 0
  · obtain ⟨h2, h3⟩ := askE_zero h
    obtain ⟨N, m, rfl, rfl, hv⟩ := vz_of h2
    obtain ⟨q, rfl⟩ := Int.eq_ofNat_of_zero_le (show 0 ≤ k by omega)
    rw [zv_toI]
    exact ⟨_, _, Most_at N m q hv (by omega)⟩
  · exact ⟨_, _, MostN_at n l k hl h⟩
theorem is_ex (n : Int) (l : List Bi) (a : Int) (hl : l.length ≤ 1000000) : ∃ (b : Bool) (e : Int), IsS.rel [zv n l, iv a] [] (.tup [bv b, iv e]) [] := by
  by_cases h : isE n l a = 0
  · unfold isE at h
    split at h
    · rename_i hc; exact absurd h hc
    · split at h
      · cases h
      · rename_i h1 h2
        obtain ⟨N, m, rfl, rfl, hv⟩ := vz_of (show (zchk n l).1 = 0 by simpa using h1)
        obtain ⟨q, rfl⟩ := Int.eq_ofNat_of_zero_le (show 0 ≤ a by omega)
        rw [zv_toI]
        exact ⟨_, _, Is_at N m q hv (by omega)⟩
  · exact ⟨_, _, IsN_at n l a hl h⟩
theorem counts_ex (n : Int) (l : List Bi) (hl : l.length ≤ 1000000) : ∃ (C : List Int) (e : Int), C.length ≤ 1000000 ∧ (frzS CountsS).rel [zv n l] [] (.tup [dI C, iv e]) [] := by
  by_cases h : (zchk n l).1 = 0
  · obtain ⟨N, m, rfl, rfl, hv⟩ := vz_of h
    rw [zv_toI]
    exact ⟨il (cnt m), 0, by rw [il_len]; omega, rfl, rfl, _, _, .inr ⟨N, m, hv, rfl, rfl, rfl, rfl⟩, by
      have : List.take 7 ((il (cnt m)).map encDI) = (il (cnt m)).map encDI := List.take_of_length_le (by simp [il_len])
      simp [frz, frzA, frzAL, frz1, il_len, this]⟩
  · exact ⟨[], (zchk n l).1, by simp, rfl, rfl, _, _, .inl ⟨n, l, hl, h, rfl, rfl, rfl, rfl⟩, by simp [frz, frzA, frzAL, frz1]⟩
abbrev TtlS : Spec := TotS
abbrev rTtlS : Spec := TotS
theorem Ttl_ok : Ok Try.prog 60 TtlS := Tot_ok
theorem rTtl_ok : Ok Try.prog 61 rTtlS := rTot_ok
abbrev MstS : Spec := MostS
abbrev rMstS : Spec := MostS
abbrev IszS : Spec := IsS
abbrev rIszS : Spec := IsS
theorem Isz_ok : Ok Try.prog 57 IszS := Is_ok
theorem rIsz_ok : Ok Try.prog 59 rIszS := rIs_ok
def ckS : Spec := { rel := fun args ins res outs => ∃ (n : Int) (l : List Bi) (k a : Int), l.length ≤ 9223372036854775807 ∧ args = [zv n l, iv k, iv a] ∧ ins = [] ∧ res = bv true ∧ outs = [] }
end Go.Proofs.Ytacfipmigkbncaa

/- BuddyKnown, by the engine. -/
namespace Go.Proofs.Ytacfipmigkbncaa
open Go.RowKit
set_option maxRecDepth 100000
set_option linter.unusedSimpArgs false
set_option linter.unusedVariables false

def mP : List Bl := [(0, 2), (6, 1), (8, 1), (10, 0)]
def mQ : List Bl := [(0, 2), (5, 0), (6, 1), (8, 1), (10, 0)]
theorem vD : Vz 11 mD := vz_chk (by decide +kernel)
abbrev NewXFS : Spec := NewFS
abbrev NewYFS : Spec := NewFS
theorem NewXF_ok : Ok Try.prog 46 NewXFS := NewF_ok
theorem NewYF_ok : Ok Try.prog 46 NewYFS := NewF_ok
theorem NewXF_at : NewXFS.rel [iv 0] [] (.tup [.agg [iv 0, .d (.sl [])], iv 0]) [] := by
  have : (frzS NewS).rel [iv ((0 : Nat) : Int)] [] (.tup [.agg [iv ((0 : Nat) : Int), dN (bld 0 (fun i => decide (i < 0)))], iv 0]) [] := ⟨rfl, rfl, _, _, .inr ⟨0, by decide, rfl, rfl, rfl, rfl⟩, frz_z 0 _ _ [.int .i64 0] rfl⟩
  exact this
theorem NewYF_at : NewYFS.rel [iv 257] [] (.tup [.agg [iv 0, .d (.sl [])], iv 2]) [] := ⟨rfl, rfl, _, _, .inl ⟨257, .inr (by decide), rfl, rfl, rfl, rfl⟩, frz_e [] _ [.int .i64 2] rfl⟩
theorem take_at' {N : Nat} {m m' : List Bl} {w k : Nat} (hv : Vz N m) (hb : OkB N (w, k)) (hn : Allfr m w k) (h : bld N (frA m w k) = m') : TakeFS.rel [.agg [iv N, dN m], iv w, iv k] [] (.tup [.agg [iv N, dN m'], iv 0]) [] := by
  subst h
  exact ⟨rfl, rfl, _, _, .inr (.inr ⟨N, m, w, k, ⟨hv, hb⟩, hn, rfl, rfl, rfl, rfl⟩), frz_z N _ _ [.int .i64 0] rfl⟩
abbrev fmES : Spec := freeLS
theorem fmE_at : fmES.rel [ze mE, .d (.sl [[.int .i64 2], [.int .i64 1], [.int .i64 4], [.int .i64 2], [.int .i64 9], [.int .i64 0], [.int .i64 10], [.int .i64 0]])] [] (bv true) [] := freeL_at 11 mE (by decide)
abbrev fmPS : Spec := freeLS
theorem fmP_at : fmPS.rel [ze mP, .d (.sl [[.int .i64 0], [.int .i64 2], [.int .i64 6], [.int .i64 1], [.int .i64 8], [.int .i64 1], [.int .i64 10], [.int .i64 0]])] [] (bv true) [] := freeL_at 11 mP (by decide)
abbrev fmQS : Spec := freeLS
theorem fmQ_at : fmQS.rel [ze mQ, .d (.sl [[.int .i64 0], [.int .i64 2], [.int .i64 5], [.int .i64 0], [.int .i64 6], [.int .i64 1], [.int .i64 8], [.int .i64 1], [.int .i64 10], [.int .i64 0]])] [] (bv true) [] := freeL_at 11 mQ (by decide)
abbrev fe3S : Spec := FreeFS
theorem fe3_ok : Ok Try.prog 62 fe3S := FreeF_ok
theorem fe3_at : fe3S.rel [ze mD, iv 0, iv 1] [] (.tup [ze m0, iv 0]) [] := by
  have hb : OkB 11 (0, 1) := by unfold OkB; decide
  exact free_at' (N := 11) (w := 0) (k := 1) vD hb ((nofr_iff ⟨vD, hb⟩).2 (by decide)) (by decide +kernel)
abbrev etk1S : Spec := TakeFS
theorem etk1_at : etk1S.rel [ze m0, iv 4, iv 1] [] (.tup [ze mP, iv 0]) [] := by
  have hb : OkB 11 (4, 1) := by unfold OkB; decide
  exact take_at' (N := 11) (w := 4) (k := 1) v0 hb ((allfr_iff ⟨v0, hb⟩).2 (by decide)) (by decide +kernel)
abbrev etk2S : Spec := TakeFS
theorem etk2_at : etk2S.rel [ze m0, iv 4, iv 0] [] (.tup [ze mQ, iv 0]) [] := by
  have hb : OkB 11 (4, 0) := by unfold OkB; decide
  exact take_at' (N := 11) (w := 4) (k := 0) v0 hb ((allfr_iff ⟨v0, hb⟩).2 (by decide)) (by decide +kernel)
abbrev ferS : Spec := FreeFS
theorem fer_ok : Ok Try.prog 62 ferS := FreeF_ok
theorem fer_at : ferS.rel [ze m0, iv 4, iv 0] [] (.tup [.agg [iv 0, .d (.sl [])], iv 7]) [] := by
  have hb : OkB 11 (4, 0) := by unfold OkB; decide
  exact ⟨rfl, rfl, _, _, .inr (.inl ⟨11, m0, 4, 0, ⟨v0, hb⟩, fun h => absurd ((nofr_iff ⟨v0, hb⟩).1 h) (by decide), rfl, rfl, rfl, rfl⟩), frz_e [] _ [.int .i64 7] rfl⟩
abbrev falS : Spec := FreeFS
theorem fal_ok : Ok Try.prog 62 falS := FreeF_ok
theorem e_al : askB 11 (m0.map toI) 3 1 = 13 := by decide +kernel
theorem fal_at : falS.rel [ze m0, iv 3, iv 1] [] (.tup [.agg [iv 0, .d (.sl [])], iv 13]) [] := by
  have : (frzS FreeS).rel [zv 11 (m0.map toI), iv 3, iv 1] [] (.tup [.agg [iv 0, dN []], iv (askB 11 (m0.map toI) 3 1)]) [] := ⟨rfl, rfl, _, _, .inl ⟨11, m0.map toI, 3, 1, by decide, by rw [e_al]; decide, rfl, rfl, rfl, rfl⟩, frz_e [] _ [.int .i64 _] rfl⟩
  rw [e_al] at this
  exact this
abbrev trgS : Spec := TakeFS
theorem e_rg : askB 11 (m0.map toI) 8 2 = 2 := by decide +kernel
theorem trg_at : trgS.rel [ze m0, iv 8, iv 2] [] (.tup [.agg [iv 0, .d (.sl [])], iv 2]) [] := by
  have : (frzS TakeS).rel [zv 11 (m0.map toI), iv 8, iv 2] [] (.tup [.agg [iv 0, dN []], iv (askB 11 (m0.map toI) 8 2)]) [] := ⟨rfl, rfl, _, _, .inl ⟨11, m0.map toI, 8, 2, by decide, by rw [e_rg]; decide, rfl, rfl, rfl, rfl⟩, frz_e [] _ [.int .i64 _] rfl⟩
  rw [e_rg] at this
  exact this
abbrev alfS : Spec := AllocFS
theorem alf_ok : Ok Try.prog 66 alfS := AllocF_ok
theorem alf_at : alfS.rel [ze m0, iv 4] [] (.tup [.agg [iv 0, .d (.sl [])], iv 0, iv 5]) [] := ⟨rfl, rfl, _, _, .inr (.inl ⟨11, m0, 4, v0, by decide, by decide, rfl, rfl, rfl, rfl⟩), frz_e [] _ [.int .i64 0, .int .i64 5] rfl⟩
abbrev cnyS : Spec := CountsFS
theorem e_cn : il (cnt m0) = [1, 1, 0, 1, 0, 0, 0] := by decide +kernel
theorem cny_at : cnyS.rel [ze m0] [] (.tup [.d (.sl [[.int .i64 1], [.int .i64 1], [.int .i64 0], [.int .i64 1], [.int .i64 0], [.int .i64 0], [.int .i64 0]]), iv 0]) [] := by
  have : (frzS CountsS).rel [ze m0] [] (.tup [dI (il (cnt m0)), iv 0]) [] := ⟨rfl, rfl, _, _, .inr ⟨11, m0, v0, rfl, rfl, rfl, rfl⟩, by
    have : List.take 7 ((il (cnt m0)).map encDI) = (il (cnt m0)).map encDI := List.take_of_length_le (by simp [il_len])
    simp [frz, frzA, frzAL, frz1, il_len, this]⟩
  rw [e_cn] at this
  exact this
abbrev si7S : Spec := SameIS
theorem si7_ok : Ok Try.prog 19 si7S := SameI_ok
theorem si7_at : si7S.rel [.d (.sl [[.int .i64 1], [.int .i64 1], [.int .i64 0], [.int .i64 1], [.int .i64 0], [.int .i64 0], [.int .i64 0]]), .d (.sl [[.int .i64 1], [.int .i64 1], [.int .i64 0], [.int .i64 1], [.int .i64 0], [.int .i64 0], [.int .i64 0]])] [] (bv true) [] := SameI_at [1, 1, 0, 1, 0, 0, 0] (by decide)
abbrev ckxS : Spec := CheckS
theorem ckx_ok : Ok Try.prog 50 ckxS := Check_ok
theorem e_ck : zchk 11 [(0, 1), (2, 1)] = (7, 1) := by decide +kernel
theorem ckx_at : ckxS.rel [.agg [iv 11, .d (.sl [[.int .i64 0, .int .i64 1], [.int .i64 2, .int .i64 1]])]] [] (.tup [iv 7, iv 1]) [] := by
  have := Check_at 11 [(0, 1), (2, 1)] (by decide)
  rw [e_ck] at this
  exact this
def mstLS : Spec := { rel := fun args ins res outs => ∃ (k w : Nat), k ≤ 6 ∧ mst m0 k = w ∧ args = [iv k, iv w] ∧ ins = [] ∧ res = bv true ∧ outs = [] }
theorem mstL_at (k w : Nat) (h : k ≤ 6) (hw : mst m0 k = w) : mstLS.rel [iv k, iv w] [] (bv true) [] := ⟨k, w, h, hw, rfl, rfl, rfl, rfl⟩
abbrev ms1S : Spec := mstLS
theorem ms1_at : ms1S.rel [iv 1, iv 5] [] (bv true) [] := mstL_at 1 5 (by decide) (by decide +kernel)
abbrev ms2S : Spec := mstLS
theorem ms2_at : ms2S.rel [iv 2, iv 2] [] (bv true) [] := mstL_at 2 2 (by decide) (by decide +kernel)
abbrev ms3S : Spec := mstLS
theorem ms3_at : ms3S.rel [iv 3, iv 1] [] (bv true) [] := mstL_at 3 1 (by decide) (by decide +kernel)
abbrev ms4S : Spec := mstLS
theorem ms4_at : ms4S.rel [iv 4, iv 0] [] (bv true) [] := mstL_at 4 0 (by decide) (by decide +kernel)
def knwS : Spec := { rel := fun args ins res outs => args = [] ∧ ins = [] ∧ res = bv true ∧ outs = [] }
theorem knw_at : knwS.rel [] [] (bv true) [] := ⟨rfl, rfl, rfl, rfl⟩
end Go.Proofs.Ytacfipmigkbncaa
