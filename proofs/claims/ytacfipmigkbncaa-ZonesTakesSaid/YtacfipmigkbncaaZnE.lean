/- Two zones: Total, New; the kit's OwnZones, SameZones; light, the examples, ZonesLooks; by the engine. -/
import Derived.Test.YtacfipmigkbncaaZnD
namespace Go.Proofs.Ytacfipmigkbncaa
open Go.RowKit
set_option maxRecDepth 100000
set_option linter.unusedSimpArgs false
set_option linter.unusedVariables false

abbrev lv20ZnE : List (Nat × List Nat) := [(0, [0, 1, 4]), (1, [0, 1, 4, 23]), (2, [4, 5]), (3, [0, 1, 4, 6, 7]), (4, [0, 1, 4, 6, 7, 31]), (5, [4, 5]), (6, [1, 4, 6, 7, 8]), (7, [4, 5])]
abbrev lv21ZnE : List (Nat × List Nat) := [(0, [0, 1, 4]), (1, [0, 1, 4, 24]), (2, [4, 5]), (3, [0, 1, 4, 6]), (4, [1, 4, 6, 8]), (5, [4, 5])]
abbrev lv28ZnE : List (Nat × List Nat) := [(0, [1]), (1, [4, 5]), (2, [4, 5, 6]), (3, [5, 6, 14, 15, 16]), (4, [5, 6, 14, 15, 16, 17]), (5, [5, 6, 8, 14, 15, 16]), (6, [5, 6, 14, 15, 16]), (7, [5, 6, 14, 15, 16]), (8, [2, 3])]
abbrev lv29ZnE : List (Nat × List Nat) := [(0, [1]), (1, [4, 5]), (2, [4, 5, 12]), (3, [2, 3]), (4, [2, 3])]
abbrev lv47ZnE : List (Nat × List Nat) := [(0, [1, 2, 4]), (1, [1, 2, 4, 8]), (2, [1, 4, 6]), (3, [4, 5]), (4, [4, 5])]
abbrev TsFS : Spec := frzS TsS
abbrev rTsFS : Spec := frzS TsS
theorem TsF_ok : Ok Try.prog 30 TsFS := frzS_ok Ts_ok
theorem rTsF_ok : Ok Try.prog 31 rTsFS := frzS_ok rTs_ok
def tsE (low : Int) (zs : List Zo) : List Int := if zzchk low zs = 0 then (match zs with | [a, b] => [(tot (a.2.map fun b => (b.1.toNat, b.2.toNat)) : Int), (tot (b.2.map fun b => (b.1.toNat, b.2.toNat)) : Int)] | _ => []) else []
theorem toN_toI (m : List Bl) : (m.map toI).map (fun b : Bi => (b.1.toNat, b.2.toNat)) = m := by
  rw [List.map_map]
  conv => rhs; rw [← List.map_id m]
  refine List.map_congr_left fun b _ => ?_
  simp [toI]
theorem tsE_v {a b : Zn} (h : Vzz a b) : tsE a.1 [toZ a, toZ b] = [(tot a.2 : Int), (tot b.2 : Int)] := by
  unfold tsE
  rw [if_pos (zzchk_v h)]
  simp only [toZ, toN_toI]
theorem tsE_e {low : Int} {zs : List Zo} (h : zzchk low zs ≠ 0) : tsE low zs = [] := by unfold tsE; rw [if_neg h]
theorem tsF_ex (low : Int) (zs : List Zo) (h1 : zs.length ≤ 1000000) (h2 : ∀ z ∈ zs, z.2.length ≤ 1000000) : (frzS TsS).rel [zzv low zs] [] (.tup [dI (tsE low zs), iv (zzchk low zs)]) [] := by
  by_cases hc : zzchk low zs = 0
  · obtain ⟨a, b, rfl, rfl, hv⟩ := vzz_of hc
    rw [hc, tsE_v hv, zz2_eq, zz2_toZ]
    exact ⟨rfl, rfl, _, _, .inr ⟨a, b, hv, rfl, rfl, rfl, rfl⟩, by simp [frz, frzA, frzAL, frz1, encDI]⟩
  · rw [tsE_e hc]
    exact ⟨rfl, rfl, _, _, .inl ⟨low, zs, h1, h2, hc, rfl, rfl, rfl, rfl⟩, by simp [frz, frzA, frzAL, frz1]⟩
theorem tsE_cases (low : Int) (zs : List Zo) : (zzchk low zs ≠ 0 ∧ tsE low zs = []) ∨ ∃ x y : Int, zzchk low zs = 0 ∧ tsE low zs = [x, y] ∧ 0 ≤ x ∧ x ≤ 16384 ∧ 0 ≤ y ∧ y ≤ 16384 := by
  by_cases hc : zzchk low zs = 0
  · obtain ⟨a, b, rfl, rfl, hv⟩ := vzz_of hc
    have t0 := tot_le hv.fa
    have t1 := tot_le hv.fb
    exact .inr ⟨_, _, hc, tsE_v hv, by omega, by omega, by omega, by omega⟩
  · exact .inl ⟨hc, tsE_e hc⟩
def TtS : Spec := { rel := fun args ins res outs => ∃ (low : Int) (zs : List Zo), zs.length ≤ 1000000 ∧ (∀ z ∈ zs, z.2.length ≤ 1000000) ∧ args = [zzv low zs] ∧ ins = [] ∧ res = .tup [iv (tsE low zs).sum, iv (zzchk low zs)] ∧ outs = [] }
theorem Tt_at (low : Int) (zs : List Zo) (h1 : zs.length ≤ 1000000) (h2 : ∀ z ∈ zs, z.2.length ≤ 1000000) : TtS.rel [zzv low zs] [] (.tup [iv (tsE low zs).sum, iv (zzchk low zs)]) [] := ⟨low, zs, h1, h2, rfl, rfl, rfl, rfl⟩
abbrev rTtS : Spec := TtS
theorem rTt_at (low : Int) (zs : List Zo) (h1 : zs.length ≤ 1000000) (h2 : ∀ z ∈ zs, z.2.length ≤ 1000000) : rTtS.rel [zzv low zs] [] (.tup [iv (tsE low zs).sum, iv (zzchk low zs)]) [] := Tt_at low zs h1 h2
set_option maxHeartbeats 2000000 in
theorem Tt_ok : Ok Try.prog 28 TtS := by
  refine fn_ok TtS Try.func28 rfl rfl ?_
  rintro args ins res outs ⟨low, zs, hl, hz, rfl, rfl, rfl, rfl⟩
  refine ⟨by simp [Try.ntmps28], fun w0 V Bo mu0 => ?_⟩
  have T0 := tsF_ex low zs hl hz
  rcases tsE_cases low zs with ⟨he, e⟩ | ⟨x, y, he, e, x0, x1, y0, y1⟩
  · rw [e] at T0 ⊢
    generalize zzchk low zs = r at *
    have TsF_at : TsFS.rel [zzv low zs] [] (.tup [.d (.sl []), iv r]) [] := T0
    have rI := resI_at 0 r
    rw [if_neg he] at rI
    have resI_at : resIS.rel [iv 0, iv r] [] (.tup [iv 0, iv r]) [] := rI
    repeat' (first
      | (with_reducible first | refine W_seq ?_ | refine W_condT rfl ?_ | refine W_condF rfl ?_ | refine W_tf rfl (fun h => ?_) (fun h => ?_) | refine W_block ?_ | refine endQ_ret ?_ | refine endQ_normal ?_)
      | ((with_reducible first | refine hK _ ?_ | refine hK _ _ ?_); clear hK K)
      | (with_reducible refine W_rounds 1 ?_)
      | (with_reducible refine Wn_succ ?_)
      | ((first | (with_reducible first | refine ops_cons (fun K hK => ?_) | refine ops_nil ?_ | refine fit_i64 (by omega) ?_ | refine fit_any ?_) | with_reducible refine callV_snap ?_ | ((with_reducible refine call_go TsFS TsF_ok ?_); refine ⟨(by first | exact alOk_nil _ | exact alOk_f rfl), _, _, TsF_at , ?_⟩) | ((with_reducible refine call_go resIS resI_ok ?_); refine ⟨(by first | exact alOk_nil _ | exact alOk_f rfl), _, _, resI_at , ?_⟩) | (with_reducible first | refine idx_map (by omega) ?_ | refine W_reg lv28ZnE ?_ | refine W_skip ?_ | refine W_exit ?_ | refine W_ret ?_ | refine end_at0 ?_) | (with_reducible refine And.intro (fun h => ?_) (fun h => ?_)) | (with_reducible refine And.intro (by omega) ?_)); (try simp only [go_sem, seval, reduceCtorEq, he, List.sum_nil, lv28ZnE, Try.ntmps28, Try.results28, TtS]))
      | fail)
  · rw [e, he] at T0 ⊢
    have TsF_at : TsFS.rel [zzv low zs] [] (.tup [.d (.sl [[.int .i64 x], [.int .i64 y]]), iv 0]) [] := T0
    have rI := resI_at (x + y) 0
    rw [if_pos rfl] at rI
    have resI_at : resIS.rel [iv (x + y), iv 0] [] (.tup [iv (x + y), iv 0]) [] := rI
    have es : [x, y].sum = x + y := by simp
    repeat' (first
      | (with_reducible first | refine W_seq ?_ | refine W_condT rfl ?_ | refine W_condF rfl ?_ | refine W_tf rfl (fun h => ?_) (fun h => ?_) | refine W_block ?_ | refine endQ_ret ?_ | refine endQ_normal ?_)
      | ((with_reducible first | refine hK _ ?_ | refine hK _ _ ?_); clear hK K)
      | (with_reducible refine W_rounds 3 ?_)
      | (with_reducible refine Wn_succ ?_)
      | ((first | (with_reducible first | refine ops_cons (fun K hK => ?_) | refine ops_nil ?_ | refine fit_i64 (by omega) ?_ | refine fit_any ?_) | with_reducible refine callV_snap ?_ | ((with_reducible refine call_go TsFS TsF_ok ?_); refine ⟨(by first | exact alOk_nil _ | exact alOk_f rfl), _, _, TsF_at , ?_⟩) | ((with_reducible refine call_go resIS resI_ok ?_); refine ⟨(by first | exact alOk_nil _ | exact alOk_f rfl), _, _, resI_at , ?_⟩) | (with_reducible first | refine idx_map (by omega) ?_ | refine W_reg lv28ZnE ?_ | refine W_skip ?_ | refine W_exit ?_ | refine W_ret ?_ | refine end_at0 ?_) | (with_reducible refine And.intro (fun h => ?_) (fun h => ?_)) | (with_reducible refine And.intro (by omega) ?_)); (try simp only [go_sem, seval, reduceCtorEq, Int.zero_add, es, lv28ZnE, Try.ntmps28, Try.results28, TtS]))
      | fail)
set_option maxHeartbeats 2000000 in
theorem rTt_ok : Ok Try.prog 29 TtS := by
  refine fn_ok TtS Try.func29 rfl rfl ?_
  rintro args ins res outs ⟨low, zs, hl, hz, rfl, rfl, rfl, rfl⟩
  refine ⟨by simp [Try.ntmps29], fun w0 V Bo mu0 => ?_⟩
  have T0 := tsF_ex low zs hl hz
  rcases tsE_cases low zs with ⟨he, e⟩ | ⟨x, y, he, e, x0, x1, y0, y1⟩
  · rw [e] at T0 ⊢
    generalize zzchk low zs = r at *
    have rTsF_at : TsFS.rel [zzv low zs] [] (.tup [.d (.sl []), iv r]) [] := T0
    have rI := resI_at 0 r
    rw [if_neg he] at rI
    have resI_at : resIS.rel [iv 0, iv r] [] (.tup [iv 0, iv r]) [] := rI
    repeat' (first
      | (with_reducible first | refine W_seq ?_ | refine W_condT rfl ?_ | refine W_condF rfl ?_ | refine W_tf rfl (fun h => ?_) (fun h => ?_) | refine endQ_ret ?_ | refine endQ_normal ?_)
      | ((with_reducible first | refine hK _ ?_ | refine hK _ _ ?_); clear hK K)
      | (with_reducible refine W_rounds 1 ?_)
      | (with_reducible refine Wn_succ ?_)
      | ((first | (with_reducible first | refine ops_cons (fun K hK => ?_) | refine opsd_cons (fun K hK => ?_) | refine ops_nil ?_ | refine fit_i64 (by omega) ?_ | refine fit_any ?_) | ((with_reducible refine opsd_nil ?_); refine And.intro (by kernel_rfl) ?_) | with_reducible refine callV_snap ?_ | ((with_reducible refine call_go rTsFS rTsF_ok ?_); refine ⟨(by first | exact alOk_nil _ | exact alOk_f rfl), _, _, rTsF_at , ?_⟩) | ((with_reducible refine call_go resIS resI_ok ?_); refine ⟨(by first | exact alOk_nil _ | exact alOk_f rfl), _, _, resI_at , ?_⟩) | (with_reducible first | refine idx_map (by omega) ?_ | refine W_reg lv29ZnE ?_ | refine W_drw lv29ZnE (by kernel_rfl) ?_ | refine W_skip ?_ | refine W_ret ?_ | refine end_at0 ?_) | (with_reducible refine And.intro (fun h => ?_) (fun h => ?_)) | (with_reducible refine And.intro (by omega) ?_)); (try simp only [go_sem, seval, reduceCtorEq, he, List.sum_nil, lv29ZnE, Try.ntmps29, Try.results29, TtS]))
      | fail)
  · rw [e, he] at T0 ⊢
    have rTsF_at : TsFS.rel [zzv low zs] [] (.tup [.d (.sl [[.int .i64 x], [.int .i64 y]]), iv 0]) [] := T0
    have rI := resI_at (x + y) 0
    rw [if_pos rfl] at rI
    have resI_at : resIS.rel [iv (x + y), iv 0] [] (.tup [iv (x + y), iv 0]) [] := rI
    have es : [x, y].sum = x + y := by simp
    repeat' (first
      | (with_reducible first | refine W_seq ?_ | refine W_condT rfl ?_ | refine W_condF rfl ?_ | refine W_tf rfl (fun h => ?_) (fun h => ?_) | refine endQ_ret ?_ | refine endQ_normal ?_)
      | ((with_reducible first | refine hK _ ?_ | refine hK _ _ ?_); clear hK K)
      | (with_reducible refine W_rounds 3 ?_)
      | (with_reducible refine Wn_succ ?_)
      | ((first | (with_reducible first | refine ops_cons (fun K hK => ?_) | refine opsd_cons (fun K hK => ?_) | refine ops_nil ?_ | refine fit_i64 (by omega) ?_ | refine fit_any ?_) | ((with_reducible refine opsd_nil ?_); refine And.intro (by kernel_rfl) ?_) | with_reducible refine callV_snap ?_ | ((with_reducible refine call_go rTsFS rTsF_ok ?_); refine ⟨(by first | exact alOk_nil _ | exact alOk_f rfl), _, _, rTsF_at , ?_⟩) | ((with_reducible refine call_go resIS resI_ok ?_); refine ⟨(by first | exact alOk_nil _ | exact alOk_f rfl), _, _, resI_at , ?_⟩) | (with_reducible first | refine idx_map (by omega) ?_ | refine W_reg lv29ZnE ?_ | refine W_drw lv29ZnE (by kernel_rfl) ?_ | refine W_skip ?_ | refine W_ret ?_ | refine end_at0 ?_) | (with_reducible refine And.intro (fun h => ?_) (fun h => ?_)) | (with_reducible refine And.intro (by omega) ?_)); (try simp only [go_sem, seval, reduceCtorEq, Int.zero_add, es, lv29ZnE, Try.ntmps29, Try.results29, TtS]))
      | fail)
/-- the zones of a new machine -/
def newZ (N : Nat) : Zn := (N, bld N (fl N))
theorem vz_new {N : Nat} (h : N ≤ 256) : Vz N (bld N (fl N)) := (gv0 h).z
theorem vzz_new {N M : Nat} (h1 : 1 ≤ N) (h2 : N + M ≤ 256) : Vzz (newZ N) (newZ M) := ⟨vz_new (show N ≤ 256 by omega), vz_new (show M ≤ 256 by omega), h1, h2⟩
theorem newF_at' {N : Nat} (h : N ≤ 256) : NewFS.rel [iv N] [] (.tup [.agg [iv N, dN (bld N (fl N))], iv 0]) [] := ⟨rfl, rfl, _, _, .inr ⟨N, h, rfl, rfl, rfl, rfl⟩, frz_z N _ _ [.int .i64 0] rfl⟩
def resZS : Spec := { al := true, rel := fun args ins res outs => ∃ (low : Int) (rs : List (List D)), args = [.agg [iv low, .row 0 2 0 2], iv 0] ∧ ins = [.rows 59 2 rs] ∧ res = .tup [.agg [iv low, .row 0 2 0 2], iv 0] ∧ outs = [.rows 59 2 rs] }
theorem resZ_at (low : Int) (rs : List (List D)) : resZS.rel [.agg [iv low, .row 0 2 0 2], iv 0] [.rows 59 2 rs] (.tup [.agg [iv low, .row 0 2 0 2], iv 0]) [.rows 59 2 rs] := ⟨low, rs, rfl, rfl, rfl, rfl⟩
theorem resZ_ok : Ok Try.prog 47 resZS := by
  refine fn_ok resZS Try.func47 rfl rfl ?_
  rintro args ins res outs ⟨low, rs, rfl, rfl, rfl, rfl⟩
  refine ⟨by simp [Try.ntmps47], fun w0 V Bo mu0 => ?_⟩
  repeat' (first
    | (with_reducible first | refine W_seq ?_ | refine W_condT rfl ?_ | refine W_condF rfl ?_ | refine W_tf rfl (fun h => ?_) (fun h => ?_) | refine endQ_ret ?_ | refine endQ_normal ?_)
    | ((with_reducible first | refine hK _ ?_ | refine hK _ _ ?_); clear hK K)
    | ((first | (with_reducible first | refine ops_cons (fun K hK => ?_) | refine ops_nil ?_) | (with_reducible first | refine W_reg lv47ZnE ?_ | refine W_skip ?_ | refine end_at0 ?_) | (with_reducible refine And.intro (fun h => ?_) (fun h => ?_)) | (with_reducible refine And.intro (by omega) ?_)); (try simp only [go_sem, seval, reduceCtorEq, lv47ZnE, Try.ntmps47, Try.results47, resZS]))
    | fail)
  refine W_ret (endQ_ret (end_at [0] ?_))
  simp [go_sem, Try.results47, resZS]
def nzBad (n low : Int) : Prop := n < 1 ∨ 256 < n ∨ low < 1 ∨ n < low
def NewZS : Spec := { al := true, rel := fun args ins res outs => (∃ n low : Int, nzBad n low ∧ args = [iv n, iv low] ∧ ins = [] ∧ res = .tup [.agg [iv 0, .nil], iv 2] ∧ outs = []) ∨
  (∃ N M : Nat, 1 ≤ N ∧ N + M ≤ 256 ∧ args = [iv ((N + M : Nat) : Int), iv N] ∧ ins = [] ∧ res = .tup [.agg [iv N, .row 0 2 0 2], iv 0] ∧ outs = [.rows 59 2 [[.int .i64 (N : Int), .sl ((bld N (fl N)).map encN)], [.int .i64 (M : Int), .sl ((bld M (fl M)).map encN)]]]) }
abbrev NewEGS : Spec := NewFS
abbrev rNewEGS : Spec := NewFS
theorem NewEG_ok : Ok Try.prog 46 NewEGS := NewF_ok
theorem rNewEG_ok : Ok Try.prog 48 rNewEGS := rNewF_ok
set_option maxHeartbeats 2000000 in
theorem NewZ_ok : Ok Try.prog 20 NewZS := by
  refine fn_ok NewZS Try.func20 rfl rfl ?_
  rintro args ins res outs (⟨n, low, hb, rfl, rfl, rfl, rfl⟩ | ⟨N, M, h1, h2, rfl, rfl, rfl, rfl⟩)
  all_goals refine ⟨by simp [Try.ntmps20], fun w0 V Bo mu0 => ?_⟩
  · unfold nzBad at hb
    by_cases c1 : n < 1
    · skip
      repeat' (first
        | (with_reducible first | refine W_seq ?_ | refine W_condT rfl ?_ | refine W_condF rfl ?_ | refine W_tf rfl (fun h => ?_) (fun h => ?_) | refine endQ_ret ?_ | refine endQ_normal ?_)
        | ((with_reducible first | refine hK _ ?_ | refine hK _ _ ?_); clear hK K)
        | ((first | (with_reducible first | refine ops_cons (fun K hK => ?_) | refine ops_nil ?_ | refine fit_i64 (by omega) ?_ | refine fit_any ?_) | with_reducible refine callV_snap ?_ | (with_reducible first | refine W_reg lv20ZnE ?_ | refine W_skip ?_ | refine W_ret ?_ | refine end_at0 ?_) | (with_reducible refine And.intro (fun h => ?_) (fun h => ?_)) | (with_reducible refine And.intro (by omega) ?_)); (try simp only [go_sem, seval, reduceCtorEq, c1, lv20ZnE, Try.ntmps20, Try.results20, NewZS]))
        | fail)
    · by_cases c2 : 256 < n
      · skip
        repeat' (first
          | (with_reducible first | refine W_seq ?_ | refine W_condT rfl ?_ | refine W_condF rfl ?_ | refine W_tf rfl (fun h => ?_) (fun h => ?_) | refine endQ_ret ?_ | refine endQ_normal ?_)
          | ((with_reducible first | refine hK _ ?_ | refine hK _ _ ?_); clear hK K)
          | ((first | (with_reducible first | refine ops_cons (fun K hK => ?_) | refine ops_nil ?_ | refine fit_i64 (by omega) ?_ | refine fit_any ?_) | with_reducible refine callV_snap ?_ | (with_reducible first | refine W_reg lv20ZnE ?_ | refine W_skip ?_ | refine W_ret ?_ | refine end_at0 ?_) | (with_reducible refine And.intro (fun h => ?_) (fun h => ?_)) | (with_reducible refine And.intro (by omega) ?_)); (try simp only [go_sem, seval, reduceCtorEq, c1, c2, lv20ZnE, Try.ntmps20, Try.results20, NewZS]))
          | fail)
      · by_cases c3 : low < 1
        · skip
          repeat' (first
            | (with_reducible first | refine W_seq ?_ | refine W_condT rfl ?_ | refine W_condF rfl ?_ | refine W_tf rfl (fun h => ?_) (fun h => ?_) | refine endQ_ret ?_ | refine endQ_normal ?_)
            | ((with_reducible first | refine hK _ ?_ | refine hK _ _ ?_); clear hK K)
            | ((first | (with_reducible first | refine ops_cons (fun K hK => ?_) | refine ops_nil ?_ | refine fit_i64 (by omega) ?_ | refine fit_any ?_) | with_reducible refine callV_snap ?_ | (with_reducible first | refine W_reg lv20ZnE ?_ | refine W_skip ?_ | refine W_ret ?_ | refine end_at0 ?_) | (with_reducible refine And.intro (fun h => ?_) (fun h => ?_)) | (with_reducible refine And.intro (by omega) ?_)); (try simp only [go_sem, seval, reduceCtorEq, c1, c2, c3, lv20ZnE, Try.ntmps20, Try.results20, NewZS]))
            | fail)
        · have c4 : n < low := by omega
          repeat' (first
            | (with_reducible first | refine W_seq ?_ | refine W_condT rfl ?_ | refine W_condF rfl ?_ | refine W_tf rfl (fun h => ?_) (fun h => ?_) | refine endQ_ret ?_ | refine endQ_normal ?_)
            | ((with_reducible first | refine hK _ ?_ | refine hK _ _ ?_); clear hK K)
            | ((first | (with_reducible first | refine ops_cons (fun K hK => ?_) | refine ops_nil ?_ | refine fit_i64 (by omega) ?_ | refine fit_any ?_) | with_reducible refine callV_snap ?_ | (with_reducible first | refine W_reg lv20ZnE ?_ | refine W_skip ?_ | refine W_ret ?_ | refine end_at0 ?_) | (with_reducible refine And.intro (fun h => ?_) (fun h => ?_)) | (with_reducible refine And.intro (by omega) ?_)); (try simp only [go_sem, seval, reduceCtorEq, c1, c2, c3, c4, lv20ZnE, Try.ntmps20, Try.results20, NewZS]))
            | fail)
  · have c1 : ¬ ((N + M : Nat) : Int) < 1 := by omega
    have c2 : ¬ 256 < ((N + M : Nat) : Int) := by omega
    have c3 : ¬ (N : Int) < 1 := by omega
    have c4 : ¬ ((N + M : Nat) : Int) < (N : Int) := by omega
    have hs : ((N + M : Nat) : Int) - (N : Int) = (M : Int) := by omega
    have n0 := newF_at' (show N ≤ 256 by omega)
    have n1 := newF_at' (show M ≤ 256 by omega)
    have NewF_at : NewFS.rel [iv N] [] (.tup [.agg [iv N, dN (bld N (fl N))], iv 0]) [] := n0
    have NewEG_at : NewFS.rel [iv M] [] (.tup [.agg [iv M, dN (bld M (fl M))], iv 0]) [] := n1
    generalize (bld N (fl N)) = m at *
    generalize (bld M (fl M)) = m' at *
    generalize hT : ((N + M : Nat) : Int) = T at *
    repeat' (first
      | (with_reducible first | refine W_seq ?_ | refine W_condT rfl ?_ | refine W_condF rfl ?_ | refine W_tf rfl (fun h => ?_) (fun h => ?_) | refine endQ_ret ?_ | refine endQ_normal ?_)
      | ((with_reducible first | refine hK _ ?_ | refine hK _ _ ?_); clear hK K)
      | ((first | (with_reducible first | refine ops_cons (fun K hK => ?_) | refine ops_nil ?_ | refine fit_i64 (by omega) ?_ | refine fit_any ?_) | ((with_reducible refine callV_lend resZS [3] resZ_ok rfl ?_); simp only [go_sem, seval, reduceCtorEq, c1, c2, c3, c4, hs, lv20ZnE]; refine ⟨(by first | exact alOk_nil _ | exact alOk_f rfl), rfl, _, _, resZ_at _ _, ?_⟩) | with_reducible refine callV_snap ?_ | ((with_reducible refine call_go NewFS NewF_ok ?_); refine ⟨(by first | exact alOk_nil _ | exact alOk_f rfl), _, _, NewF_at , ?_⟩) | ((with_reducible refine call_go NewEGS NewEG_ok ?_); refine ⟨(by first | exact alOk_nil _ | exact alOk_f rfl), _, _, NewEG_at , ?_⟩) | (with_reducible first | refine W_reg lv20ZnE ?_ | refine W_skip ?_ | refine end_at0 ?_) | (with_reducible refine And.intro (fun h => ?_) (fun h => ?_)) | (with_reducible refine And.intro (by omega) ?_)); (try simp only [go_sem, seval, reduceCtorEq, c1, c2, c3, c4, hs, lv20ZnE, resZS, Try.ntmps20, Try.results20, NewZS]))
      | fail)
    refine W_ret (endQ_ret (end_at [3] ?_))
    simp [go_sem, Try.results20, NewZS]
set_option maxHeartbeats 2000000 in
theorem rNewZ_ok : Ok Try.prog 21 NewZS := by
  refine fn_ok NewZS Try.func21 rfl rfl ?_
  rintro args ins res outs (⟨n, low, hb, rfl, rfl, rfl, rfl⟩ | ⟨N, M, h1, h2, rfl, rfl, rfl, rfl⟩)
  all_goals refine ⟨by simp [Try.ntmps21], fun w0 V Bo mu0 => ?_⟩
  · unfold nzBad at hb
    by_cases c1 : n < 1
    · skip
      repeat' (first
        | (with_reducible first | refine W_seq ?_ | refine W_condT rfl ?_ | refine W_condF rfl ?_ | refine W_tf rfl (fun h => ?_) (fun h => ?_) | refine endQ_ret ?_ | refine endQ_normal ?_)
        | ((with_reducible first | refine hK _ ?_ | refine hK _ _ ?_); clear hK K)
        | ((first | (with_reducible first | refine ops_cons (fun K hK => ?_) | refine ops_nil ?_ | refine fit_i64 (by omega) ?_ | refine fit_any ?_) | with_reducible refine callV_snap ?_ | (with_reducible first | refine W_reg lv21ZnE ?_ | refine W_skip ?_ | refine W_ret ?_ | refine end_at0 ?_) | (with_reducible refine And.intro (fun h => ?_) (fun h => ?_)) | (with_reducible refine And.intro (by omega) ?_)); (try simp only [go_sem, seval, reduceCtorEq, c1, lv21ZnE, Try.ntmps21, Try.results21, NewZS]))
        | fail)
    · by_cases c2 : 256 < n
      · skip
        repeat' (first
          | (with_reducible first | refine W_seq ?_ | refine W_condT rfl ?_ | refine W_condF rfl ?_ | refine W_tf rfl (fun h => ?_) (fun h => ?_) | refine endQ_ret ?_ | refine endQ_normal ?_)
          | ((with_reducible first | refine hK _ ?_ | refine hK _ _ ?_); clear hK K)
          | ((first | (with_reducible first | refine ops_cons (fun K hK => ?_) | refine ops_nil ?_ | refine fit_i64 (by omega) ?_ | refine fit_any ?_) | with_reducible refine callV_snap ?_ | (with_reducible first | refine W_reg lv21ZnE ?_ | refine W_skip ?_ | refine W_ret ?_ | refine end_at0 ?_) | (with_reducible refine And.intro (fun h => ?_) (fun h => ?_)) | (with_reducible refine And.intro (by omega) ?_)); (try simp only [go_sem, seval, reduceCtorEq, c1, c2, lv21ZnE, Try.ntmps21, Try.results21, NewZS]))
          | fail)
      · by_cases c3 : low < 1
        · skip
          repeat' (first
            | (with_reducible first | refine W_seq ?_ | refine W_condT rfl ?_ | refine W_condF rfl ?_ | refine W_tf rfl (fun h => ?_) (fun h => ?_) | refine endQ_ret ?_ | refine endQ_normal ?_)
            | ((with_reducible first | refine hK _ ?_ | refine hK _ _ ?_); clear hK K)
            | ((first | (with_reducible first | refine ops_cons (fun K hK => ?_) | refine ops_nil ?_ | refine fit_i64 (by omega) ?_ | refine fit_any ?_) | with_reducible refine callV_snap ?_ | (with_reducible first | refine W_reg lv21ZnE ?_ | refine W_skip ?_ | refine W_ret ?_ | refine end_at0 ?_) | (with_reducible refine And.intro (fun h => ?_) (fun h => ?_)) | (with_reducible refine And.intro (by omega) ?_)); (try simp only [go_sem, seval, reduceCtorEq, c1, c2, c3, lv21ZnE, Try.ntmps21, Try.results21, NewZS]))
            | fail)
        · have c4 : n < low := by omega
          repeat' (first
            | (with_reducible first | refine W_seq ?_ | refine W_condT rfl ?_ | refine W_condF rfl ?_ | refine W_tf rfl (fun h => ?_) (fun h => ?_) | refine endQ_ret ?_ | refine endQ_normal ?_)
            | ((with_reducible first | refine hK _ ?_ | refine hK _ _ ?_); clear hK K)
            | ((first | (with_reducible first | refine ops_cons (fun K hK => ?_) | refine ops_nil ?_ | refine fit_i64 (by omega) ?_ | refine fit_any ?_) | with_reducible refine callV_snap ?_ | (with_reducible first | refine W_reg lv21ZnE ?_ | refine W_skip ?_ | refine W_ret ?_ | refine end_at0 ?_) | (with_reducible refine And.intro (fun h => ?_) (fun h => ?_)) | (with_reducible refine And.intro (by omega) ?_)); (try simp only [go_sem, seval, reduceCtorEq, c1, c2, c3, c4, lv21ZnE, Try.ntmps21, Try.results21, NewZS]))
            | fail)
  · have c1 : ¬ ((N + M : Nat) : Int) < 1 := by omega
    have c2 : ¬ 256 < ((N + M : Nat) : Int) := by omega
    have c3 : ¬ (N : Int) < 1 := by omega
    have c4 : ¬ ((N + M : Nat) : Int) < (N : Int) := by omega
    have hs : ((N + M : Nat) : Int) - (N : Int) = (M : Int) := by omega
    have n0 := newF_at' (show N ≤ 256 by omega)
    have n1 := newF_at' (show M ≤ 256 by omega)
    have rNewF_at : NewFS.rel [iv N] [] (.tup [.agg [iv N, dN (bld N (fl N))], iv 0]) [] := n0
    have rNewEG_at : NewFS.rel [iv M] [] (.tup [.agg [iv M, dN (bld M (fl M))], iv 0]) [] := n1
    generalize (bld N (fl N)) = m at *
    generalize (bld M (fl M)) = m' at *
    generalize hT : ((N + M : Nat) : Int) = T at *
    repeat' (first
      | (with_reducible first | refine W_seq ?_ | refine W_condT rfl ?_ | refine W_condF rfl ?_ | refine W_tf rfl (fun h => ?_) (fun h => ?_) | refine endQ_ret ?_ | refine endQ_normal ?_)
      | ((with_reducible first | refine hK _ ?_ | refine hK _ _ ?_); clear hK K)
      | ((first | (with_reducible first | refine ops_cons (fun K hK => ?_) | refine ops_nil ?_ | refine fit_i64 (by omega) ?_ | refine fit_any ?_) | ((with_reducible refine callV_lend resZS [3] resZ_ok rfl ?_); simp only [go_sem, seval, reduceCtorEq, c1, c2, c3, c4, hs, lv21ZnE]; refine ⟨(by first | exact alOk_nil _ | exact alOk_f rfl), rfl, _, _, resZ_at _ _, ?_⟩) | with_reducible refine callV_snap ?_ | ((with_reducible refine call_go rNewFS rNewF_ok ?_); refine ⟨(by first | exact alOk_nil _ | exact alOk_f rfl), _, _, rNewF_at , ?_⟩) | ((with_reducible refine call_go rNewEGS rNewEG_ok ?_); refine ⟨(by first | exact alOk_nil _ | exact alOk_f rfl), _, _, rNewEG_at , ?_⟩) | (with_reducible first | refine W_reg lv21ZnE ?_ | refine W_skip ?_ | refine end_at0 ?_) | (with_reducible refine And.intro (fun h => ?_) (fun h => ?_)) | (with_reducible refine And.intro (by omega) ?_)); (try simp only [go_sem, seval, reduceCtorEq, c1, c2, c3, c4, hs, lv21ZnE, resZS, Try.ntmps21, Try.results21, NewZS]))
      | fail)
    refine W_ret (endQ_ret (end_at [3] ?_))
    simp [go_sem, Try.results21, NewZS]
end Go.Proofs.Ytacfipmigkbncaa
