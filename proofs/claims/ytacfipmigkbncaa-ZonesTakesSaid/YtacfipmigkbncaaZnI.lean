/- Two zones: zones.Free by the engine. -/
import Derived.Test.YtacfipmigkbncaaZnH
namespace Go.Proofs.Ytacfipmigkbncaa
open Go.RowKit
set_option maxRecDepth 100000
set_option linter.unusedSimpArgs false
set_option linter.unusedVariables false

abbrev lv32ZnI : List (Nat × List Nat) := [(0, [1, 2, 3, 6]), (1, [1, 2, 3, 6, 8]), (2, [1, 2, 3, 6, 8, 17]), (3, [6, 7]), (4, [1, 2, 3, 6, 9, 10]), (5, [1, 2, 3, 6, 9, 10, 26]), (6, [6, 7]), (7, [1, 2, 3, 6, 9, 11]), (8, [1, 2, 3, 6, 10, 11, 12]), (9, [1, 2, 3, 6, 10, 11, 12, 39]), (10, [6, 7]), (11, [6, 10, 11, 12, 13]), (12, [6, 10, 11, 12, 13, 58]), (13, [6, 7]), (14, [6, 7])]
/-- how the freeing of a block in a zone comes out -/
def FrE (z : Zn) (w : Int) (q : Nat) (e : Int) : Prop := e ≠ 0 ∧ FreeFS.rel [.agg [iv z.1, dN z.2], iv w, iv q] [] (.tup [.agg [iv 0, dN []], iv e]) []
def FrO (z z' : Zn) (w : Int) (q : Nat) : Prop := FreeFS.rel [.agg [iv z.1, dN z.2], iv w, iv q] [] (.tup [.agg [iv z'.1, dN z'.2], iv 0]) []
/-- how zones.Free comes out -/
inductive ZFr : AV → Int → Int → AV → Prop
  | chk {low zs w k} : zs.length ≤ 1000000 → (∀ z ∈ zs, z.2.length ≤ 1000000) → zzchk low zs ≠ 0 → ZFr (zzv low zs) w k (.tup [.agg [iv 0, .nil], iv (zzchk low zs)])
  | ord {a b w k} : Vzz a b → (k < 0 ∨ 6 < k) → ZFr (zzn a.1 a b) w k (.tup [.agg [iv 0, .nil], iv 2])
  | rng {a b w q} : Vzz a b → q ≤ 6 → zof a.1 ((a.1 + b.1 : Nat) : Int) w ((2 ^ q : Nat) : Int) = (0, 2) → ZFr (zzn a.1 a b) w (q : Nat) (.tup [.agg [iv 0, .nil], iv 2])
  | e0 {a b w q e} : Vzz a b → q ≤ 6 → zof a.1 ((a.1 + b.1 : Nat) : Int) w ((2 ^ q : Nat) : Int) = (0, 0) → FrE a w q e → ZFr (zzn a.1 a b) w (q : Nat) (.tup [.agg [iv 0, .nil], iv e])
  | e1 {a b w q e} : Vzz a b → q ≤ 6 → zof a.1 ((a.1 + b.1 : Nat) : Int) w ((2 ^ q : Nat) : Int) = (1, 0) → -9223372036854775808 + 256 ≤ w → FrE b (w - a.1) q e → ZFr (zzn a.1 a b) w (q : Nat) (.tup [.agg [iv 0, .nil], iv e])
  | o0 {a b c w q} : Vzz a b → q ≤ 6 → zof a.1 ((a.1 + b.1 : Nat) : Int) w ((2 ^ q : Nat) : Int) = (0, 0) → FrO a c w q → ZFr (zzn a.1 a b) w (q : Nat) (.tup [zzn a.1 c b, iv 0])
  | o1 {a b c w q} : Vzz a b → q ≤ 6 → zof a.1 ((a.1 + b.1 : Nat) : Int) w ((2 ^ q : Nat) : Int) = (1, 0) → FrO b c (w - a.1) q → ZFr (zzn a.1 a b) w (q : Nat) (.tup [zzn a.1 a c, iv 0])
theorem zof_rng {low fr w s : Int} (h : (zof low fr w s).2 = 0) (h0 : 0 ≤ low) : 0 ≤ w ∧ w ≤ max (low - s) (fr - s) := by
  unfold zof at h
  by_cases c1 : 0 ≤ w ∧ w ≤ low - s
  · omega
  · rw [if_neg c1] at h
    by_cases c2 : low ≤ w ∧ w ≤ fr - s
    · omega
    · rw [if_neg c2] at h; cases h
theorem Vzz.l2a {a b : Zn} (h : Vzz a b) : a.2.length ≤ 1000000 := by have := h.fa.v.len; omega
theorem Vzz.l2b {a b : Zn} (h : Vzz a b) : b.2.length ≤ 1000000 := by have := h.fb.v.len; omega
theorem size_at {q : Nat} (hq : q ≤ 6) : sizeOfS.rel [iv q] [] (.tup [iv ((2 ^ q : Nat) : Int), iv 0]) [] := by
  have hs := sizeOf_at q
  simp only [if_neg (show ¬ ((q : Int) < 0 ∨ 6 < (q : Int)) by omega), Int.toNat_natCast] at hs
  rwa [pow_nat] at hs
def zFrS : Spec := { al := true, rel := fun args ins res outs => ∃ (z : AV) (w k : Int), ZFr z w k res ∧ args = [z, iv w, iv k] ∧ ins = [] ∧ outs = [] }
set_option maxHeartbeats 4000000 in
theorem zFr_ok : Ok Try.prog 32 zFrS := by
  refine fn_ok zFrS Try.func32 rfl rfl ?_
  rintro args ins res outs ⟨z, w, k, hz, rfl, rfl, rfl⟩
  refine ⟨by simp [Try.ntmps32], fun w0 V Bo mu0 => ?_⟩
  cases hz with
  | chk hl hz hc =>
    repeat' (first
      | (with_reducible first | refine W_seq ?_ | refine W_condT rfl ?_ | refine W_condF rfl ?_ | refine W_tf rfl (fun h => ?_) (fun h => ?_) | refine endQ_ret ?_ | refine endQ_normal ?_)
      | ((with_reducible first | refine hK _ ?_ | refine hK _ _ ?_); clear hK K)
      | ((first | (with_reducible first | refine ops_cons (fun K hK => ?_) | refine opsd_cons (fun K hK => ?_) | refine ops_nil ?_ | refine fit_i64 (by omega) ?_ | refine fit_any ?_) | ((with_reducible refine opsd_nil ?_); refine And.intro (by kernel_rfl) ?_) | with_reducible refine callV_snap ?_ | ((with_reducible refine call_go CkzS Ckz_ok ?_); refine ⟨(by first | exact alOk_nil _ | exact alOk_f rfl), _, _, Ckz_at _ _ hl hz, ?_⟩) | (with_reducible first | refine idx_map (by omega) ?_ | refine W_reg lv32ZnI ?_ | refine W_drw lv32ZnI (by kernel_rfl) ?_ | refine W_skip ?_ | refine W_ret ?_ | refine end_at0 ?_) | (with_reducible refine And.intro (fun h => ?_) (fun h => ?_)) | (with_reducible refine And.intro (by omega) ?_)); (try simp only [go_sem, seval, reduceCtorEq, hc, lv32ZnI, Try.ntmps32, Try.results32, zFrS]))
      | fail)
  | ord hv ho =>
    have hs := sizeOf_at k
    simp only [if_pos ho] at hs
    have sizeOf_at : sizeOfS.rel [iv k] [] (.tup [iv 0, iv 2]) [] := hs
    repeat' (first
      | (with_reducible first | refine W_seq ?_ | refine W_condT rfl ?_ | refine W_condF rfl ?_ | refine W_tf rfl (fun h => ?_) (fun h => ?_) | refine endQ_ret ?_ | refine endQ_normal ?_)
      | ((with_reducible first | refine hK _ ?_ | refine hK _ _ ?_); clear hK K)
      | ((first | (with_reducible first | refine ops_cons (fun K hK => ?_) | refine opsd_cons (fun K hK => ?_) | refine ops_nil ?_ | refine fit_i64 (by omega) ?_ | refine fit_any ?_) | ((with_reducible refine opsd_nil ?_); refine And.intro (by kernel_rfl) ?_) | with_reducible refine callV_snap ?_ | ((with_reducible refine call_go CkvS Ckv_ok ?_); refine ⟨(by first | exact alOk_nil _ | exact alOk_f rfl), _, _, Ckv_at hv, ?_⟩) | ((with_reducible refine call_go sizeOfS sizeOf_ok ?_); refine ⟨(by first | exact alOk_nil _ | exact alOk_f rfl), _, _, sizeOf_at , ?_⟩) | (with_reducible first | refine idx_map (by omega) ?_ | refine W_reg lv32ZnI ?_ | refine W_drw lv32ZnI (by kernel_rfl) ?_ | refine W_skip ?_ | refine W_ret ?_ | refine end_at0 ?_) | (with_reducible refine And.intro (fun h => ?_) (fun h => ?_)) | (with_reducible refine And.intro (by omega) ?_)); (try simp only [go_sem, seval, reduceCtorEq, lv32ZnI, Try.ntmps32, Try.results32, zFrS]))
      | fail)
  | rng hv hq hz =>
    rename_i a b q
    have sizeOf_at := size_at hq
    have hp := p64 q hq
    have z0 := zoneOv_at hv w ((2 ^ q : Nat) : Int) (by omega)
    rw [hz] at z0
    have zoneOv_at : zoneOvS.rel [zzn a.1 a b, iv w, iv ((2 ^ q : Nat) : Int)] [] (.tup [iv 0, iv 2]) [] := z0
    repeat' (first
      | (with_reducible first | refine W_seq ?_ | refine W_condT rfl ?_ | refine W_condF rfl ?_ | refine W_tf rfl (fun h => ?_) (fun h => ?_) | refine endQ_ret ?_ | refine endQ_normal ?_)
      | ((with_reducible first | refine hK _ ?_ | refine hK _ _ ?_); clear hK K)
      | ((first | (with_reducible first | refine ops_cons (fun K hK => ?_) | refine opsd_cons (fun K hK => ?_) | refine ops_nil ?_ | refine fit_i64 (by omega) ?_ | refine fit_any ?_) | ((with_reducible refine opsd_nil ?_); refine And.intro (by kernel_rfl) ?_) | with_reducible refine callV_snap ?_ | ((with_reducible refine call_go CkvS Ckv_ok ?_); refine ⟨(by first | exact alOk_nil _ | exact alOk_f rfl), _, _, Ckv_at hv, ?_⟩) | ((with_reducible refine call_go sizeOfS sizeOf_ok ?_); refine ⟨(by first | exact alOk_nil _ | exact alOk_f rfl), _, _, sizeOf_at , ?_⟩) | ((with_reducible refine call_go zoneOvS zoneOv_ok ?_); refine ⟨(by first | exact alOk_nil _ | exact alOk_f rfl), _, _, zoneOv_at , ?_⟩) | (with_reducible first | refine idx_map (by omega) ?_ | refine W_reg lv32ZnI ?_ | refine W_drw lv32ZnI (by kernel_rfl) ?_ | refine W_skip ?_ | refine W_ret ?_ | refine end_at0 ?_) | (with_reducible refine And.intro (fun h => ?_) (fun h => ?_)) | (with_reducible refine And.intro (by omega) ?_)); (try simp only [go_sem, seval, reduceCtorEq, lv32ZnI, Try.ntmps32, Try.results32, zFrS]))
      | fail)
  | e0 hv hq hz he =>
    rename_i a b q e
    have sizeOf_at := size_at hq
    have hp := p64 q hq
    have z0 := zoneOv_at hv w ((2 ^ q : Nat) : Int) (by omega)
    have hr := zof_rng (by rw [hz]) (Int.natCast_nonneg a.1)
    have hle := hv.le
    rw [hz] at z0
    have zoneOv_at : zoneOvS.rel [zzn a.1 a b, iv w, iv ((2 ^ q : Nat) : Int)] [] (.tup [iv 0, iv 0]) [] := z0
    obtain ⟨hne, FreeF_at⟩ := he
    repeat' (first
      | (with_reducible first | refine W_seq ?_ | refine W_condT rfl ?_ | refine W_condF rfl ?_ | refine W_tf rfl (fun h => ?_) (fun h => ?_) | refine endQ_ret ?_ | refine endQ_normal ?_)
      | ((with_reducible first | refine hK _ ?_ | refine hK _ _ ?_); clear hK K)
      | ((first | (with_reducible first | refine ops_cons (fun K hK => ?_) | refine opsd_cons (fun K hK => ?_) | refine ops_nil ?_ | refine fit_i64 (by omega) ?_ | refine fit_any ?_) | ((with_reducible refine opsd_nil ?_); refine And.intro (by kernel_rfl) ?_) | with_reducible refine callV_snap ?_ | ((with_reducible refine call_go CkvS Ckv_ok ?_); refine ⟨(by first | exact alOk_nil _ | exact alOk_f rfl), _, _, Ckv_at hv, ?_⟩) | ((with_reducible refine call_go sizeOfS sizeOf_ok ?_); refine ⟨(by first | exact alOk_nil _ | exact alOk_f rfl), _, _, sizeOf_at , ?_⟩) | ((with_reducible refine call_go zoneOvS zoneOv_ok ?_); refine ⟨(by first | exact alOk_nil _ | exact alOk_f rfl), _, _, zoneOv_at , ?_⟩) | ((with_reducible refine call_go basevS basev_ok ?_); refine ⟨(by first | exact alOk_nil _ | exact alOk_f rfl), _, _, basev_at hv 0 (.inl rfl), ?_⟩) | ((with_reducible refine call_go FreeFS FreeF_ok ?_); refine ⟨(by first | exact alOk_nil _ | exact alOk_f rfl), _, _, FreeF_at , ?_⟩) | (with_reducible first | refine idx_map (by omega) ?_ | refine W_reg lv32ZnI ?_ | refine W_drw lv32ZnI (by kernel_rfl) ?_ | refine W_skip ?_ | refine W_ret ?_ | refine end_at0 ?_) | (with_reducible refine And.intro (fun h => ?_) (fun h => ?_)) | (with_reducible refine And.intro (by omega) ?_)); (try simp only [go_sem, seval, reduceCtorEq, Int.zero_mul, Int.sub_zero, hne, lv32ZnI, Try.ntmps32, Try.results32, zFrS]))
      | fail)
  | e1 hv hq hz hw he =>
    rename_i a b q e
    have sizeOf_at := size_at hq
    have hp := p64 q hq
    have z0 := zoneOv_at hv w ((2 ^ q : Nat) : Int) (by omega)
    have hr := zof_rng (by rw [hz]) (Int.natCast_nonneg a.1)
    have hle := hv.le
    rw [hz] at z0
    have zoneOv_at : zoneOvS.rel [zzn a.1 a b, iv w, iv ((2 ^ q : Nat) : Int)] [] (.tup [iv 1, iv 0]) [] := z0
    obtain ⟨hne, FreeF_at⟩ := he
    repeat' (first
      | (with_reducible first | refine W_seq ?_ | refine W_condT rfl ?_ | refine W_condF rfl ?_ | refine W_tf rfl (fun h => ?_) (fun h => ?_) | refine endQ_ret ?_ | refine endQ_normal ?_)
      | ((with_reducible first | refine hK _ ?_ | refine hK _ _ ?_); clear hK K)
      | ((first | (with_reducible first | refine ops_cons (fun K hK => ?_) | refine opsd_cons (fun K hK => ?_) | refine ops_nil ?_ | refine fit_i64 (by omega) ?_ | refine fit_any ?_) | ((with_reducible refine opsd_nil ?_); refine And.intro (by kernel_rfl) ?_) | with_reducible refine callV_snap ?_ | ((with_reducible refine call_go CkvS Ckv_ok ?_); refine ⟨(by first | exact alOk_nil _ | exact alOk_f rfl), _, _, Ckv_at hv, ?_⟩) | ((with_reducible refine call_go sizeOfS sizeOf_ok ?_); refine ⟨(by first | exact alOk_nil _ | exact alOk_f rfl), _, _, sizeOf_at , ?_⟩) | ((with_reducible refine call_go zoneOvS zoneOv_ok ?_); refine ⟨(by first | exact alOk_nil _ | exact alOk_f rfl), _, _, zoneOv_at , ?_⟩) | ((with_reducible refine call_go basevS basev_ok ?_); refine ⟨(by first | exact alOk_nil _ | exact alOk_f rfl), _, _, basev_at hv 1 (.inr rfl), ?_⟩) | ((with_reducible refine call_go FreeFS FreeF_ok ?_); refine ⟨(by first | exact alOk_nil _ | exact alOk_f rfl), _, _, FreeF_at , ?_⟩) | (with_reducible first | refine idx_map (by omega) ?_ | refine W_reg lv32ZnI ?_ | refine W_drw lv32ZnI (by kernel_rfl) ?_ | refine W_skip ?_ | refine W_ret ?_ | refine end_at0 ?_) | (with_reducible refine And.intro (fun h => ?_) (fun h => ?_)) | (with_reducible refine And.intro (by omega) ?_)); (try simp only [go_sem, seval, reduceCtorEq, Int.one_mul, hne, lv32ZnI, Try.ntmps32, Try.results32, zFrS]))
      | fail)
  | o0 hv hq hz FreeF_at =>
    rename_i a b c q
    have sizeOf_at := size_at hq
    have hp := p64 q hq
    have z0 := zoneOv_at hv w ((2 ^ q : Nat) : Int) (by omega)
    have hr := zof_rng (by rw [hz]) (Int.natCast_nonneg a.1)
    have hle := hv.le
    rw [hz] at z0
    have zoneOv_at : zoneOvS.rel [zzn a.1 a b, iv w, iv ((2 ^ q : Nat) : Int)] [] (.tup [iv 0, iv 0]) [] := z0
    repeat' (first
      | (with_reducible first | refine W_seq ?_ | refine W_condT rfl ?_ | refine W_condF rfl ?_ | refine W_tf rfl (fun h => ?_) (fun h => ?_) | refine endQ_ret ?_ | refine endQ_normal ?_)
      | ((with_reducible first | refine hK _ ?_ | refine hK _ _ ?_); clear hK K)
      | ((first | (with_reducible first | refine ops_cons (fun K hK => ?_) | refine opsd_cons (fun K hK => ?_) | refine ops_nil ?_ | refine fit_i64 (by omega) ?_ | refine fit_any ?_) | ((with_reducible refine opsd_nil ?_); refine And.intro (by kernel_rfl) ?_) | with_reducible refine callV_snap ?_ | ((with_reducible refine call_go CkvS Ckv_ok ?_); refine ⟨(by first | exact alOk_nil _ | exact alOk_f rfl), _, _, Ckv_at hv, ?_⟩) | ((with_reducible refine call_go sizeOfS sizeOf_ok ?_); refine ⟨(by first | exact alOk_nil _ | exact alOk_f rfl), _, _, sizeOf_at , ?_⟩) | ((with_reducible refine call_go zoneOvS zoneOv_ok ?_); refine ⟨(by first | exact alOk_nil _ | exact alOk_f rfl), _, _, zoneOv_at , ?_⟩) | ((with_reducible refine call_go basevS basev_ok ?_); refine ⟨(by first | exact alOk_nil _ | exact alOk_f rfl), _, _, basev_at hv 0 (.inl rfl), ?_⟩) | ((with_reducible refine call_go FreeFS FreeF_ok ?_); refine ⟨(by first | exact alOk_nil _ | exact alOk_f rfl), _, _, FreeF_at , ?_⟩) | ((with_reducible refine call_go withAFS withAF_ok ?_); refine ⟨(by first | exact alOk_nil _ | exact alOk_f rfl), _, _, withAF_at a.1 a b c hv.l2a hv.l2b, ?_⟩) | (with_reducible first | refine idx_map (by omega) ?_ | refine W_reg lv32ZnI ?_ | refine W_drw lv32ZnI (by kernel_rfl) ?_ | refine W_skip ?_ | refine W_ret ?_ | refine end_at0 ?_) | (with_reducible refine And.intro (fun h => ?_) (fun h => ?_)) | (with_reducible refine And.intro (by omega) ?_)); (try simp only [go_sem, seval, reduceCtorEq, Int.zero_mul, Int.sub_zero, lv32ZnI, Try.ntmps32, Try.results32, zFrS]))
      | fail)
  | o1 hv hq hz FreeF_at =>
    rename_i a b c q
    have sizeOf_at := size_at hq
    have hp := p64 q hq
    have z0 := zoneOv_at hv w ((2 ^ q : Nat) : Int) (by omega)
    have hr := zof_rng (by rw [hz]) (Int.natCast_nonneg a.1)
    have hle := hv.le
    rw [hz] at z0
    have zoneOv_at : zoneOvS.rel [zzn a.1 a b, iv w, iv ((2 ^ q : Nat) : Int)] [] (.tup [iv 1, iv 0]) [] := z0
    repeat' (first
      | (with_reducible first | refine W_seq ?_ | refine W_condT rfl ?_ | refine W_condF rfl ?_ | refine W_tf rfl (fun h => ?_) (fun h => ?_) | refine endQ_ret ?_ | refine endQ_normal ?_)
      | ((with_reducible first | refine hK _ ?_ | refine hK _ _ ?_); clear hK K)
      | ((first | (with_reducible first | refine ops_cons (fun K hK => ?_) | refine opsd_cons (fun K hK => ?_) | refine ops_nil ?_ | refine fit_i64 (by omega) ?_ | refine fit_any ?_) | ((with_reducible refine opsd_nil ?_); refine And.intro (by kernel_rfl) ?_) | with_reducible refine callV_snap ?_ | ((with_reducible refine call_go CkvS Ckv_ok ?_); refine ⟨(by first | exact alOk_nil _ | exact alOk_f rfl), _, _, Ckv_at hv, ?_⟩) | ((with_reducible refine call_go sizeOfS sizeOf_ok ?_); refine ⟨(by first | exact alOk_nil _ | exact alOk_f rfl), _, _, sizeOf_at , ?_⟩) | ((with_reducible refine call_go zoneOvS zoneOv_ok ?_); refine ⟨(by first | exact alOk_nil _ | exact alOk_f rfl), _, _, zoneOv_at , ?_⟩) | ((with_reducible refine call_go basevS basev_ok ?_); refine ⟨(by first | exact alOk_nil _ | exact alOk_f rfl), _, _, basev_at hv 1 (.inr rfl), ?_⟩) | ((with_reducible refine call_go FreeFS FreeF_ok ?_); refine ⟨(by first | exact alOk_nil _ | exact alOk_f rfl), _, _, FreeF_at , ?_⟩) | ((with_reducible refine call_go withBFS withBF_ok ?_); refine ⟨(by first | exact alOk_nil _ | exact alOk_f rfl), _, _, withBF_at a.1 a b c hv.l2a hv.l2b, ?_⟩) | (with_reducible first | refine idx_map (by omega) ?_ | refine W_reg lv32ZnI ?_ | refine W_drw lv32ZnI (by kernel_rfl) ?_ | refine W_skip ?_ | refine W_ret ?_ | refine end_at0 ?_) | (with_reducible refine And.intro (fun h => ?_) (fun h => ?_)) | (with_reducible refine And.intro (by omega) ?_)); (try simp only [go_sem, seval, reduceCtorEq, Int.one_mul, lv32ZnI, Try.ntmps32, Try.results32, zFrS]))
      | fail)
abbrev zFrFS : Spec := frzS zFrS
theorem zFrF_ok : Ok Try.prog 32 zFrFS := frzS_ok zFr_ok
/-- a block that is given out may be freed -/
theorem zfr_at {a b : Zn} (hv : Vzz a b) {c : Bl} (hc : InZ a b c) : zFrFS.rel [zzn a.1 a b, iv c.1, iv c.2] [] (.tup [zzn a.1 (frE2 a b c.1 c.2).1 (frE2 a b c.1 c.2).2, iv 0]) [] := by
  refine ⟨rfl, rfl, .tup [zzn a.1 (frE2 a b c.1 c.2).1 (frE2 a b c.1 c.2).2, iv 0], [], ⟨_, _, _, ?_, rfl, rfl, rfl⟩, ?_⟩
  · unfold frE2
    rcases hc with ⟨c1, c2, c3⟩ | ⟨c1, c2, c3⟩
    · have h3 := c2.2.1
      rw [if_pos c1]
      refine .o0 (c := (a.1, bld a.1 (frF a.2 c.1 c.2))) hv c2.1 ?_ (free_at' hv.fa c2 c3 rfl)
      unfold zof
      rw [if_pos (by omega)]
    · have h3 := c2.2.1
      dsimp only at h3
      have hp := two_pos c.2
      rw [if_neg (by omega)]
      refine .o1 (c := (b.1, bld b.1 (frF b.2 (c.1 - a.1) c.2))) hv c2.1 ?_ ?_
      · unfold zof
        rw [if_neg (by omega), if_pos (by omega)]
      · have := free_at' hv.fb c2 c3 rfl
        unfold FrO
        rwa [show ((c.1 - a.1 : Nat) : Int) = (c.1 : Int) - (a.1 : Int) by omega] at this
  · simp [frz, frzA, frzAL, frzL, frz1]
end Go.Proofs.Ytacfipmigkbncaa
