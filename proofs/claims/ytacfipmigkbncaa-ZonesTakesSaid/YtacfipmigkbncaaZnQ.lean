/- The specification's Free, by the engine; ZonesAllocs, ZonesFrees. -/
import Derived.Test.YtacfipmigkbncaaZnP
namespace Go.Proofs.Ytacfipmigkbncaa
open Go.RowKit
set_option maxRecDepth 100000
set_option linter.unusedSimpArgs false
set_option linter.unusedVariables false

abbrev lv33ZnQ : List (Nat × List Nat) := [(0, [1, 2, 3, 6]), (1, [1, 2, 3, 6, 8]), (2, [1, 2, 3, 6, 8, 15]), (3, [6, 7]), (4, [1, 2, 3, 6, 33]), (5, [6, 7]), (6, [1, 2, 3, 6, 9]), (7, [1, 2, 3, 6, 9, 38]), (8, [1, 2, 3, 6, 9]), (9, [3, 6, 9, 10, 11]), (10, [3, 6, 9, 10, 11, 56]), (11, [6, 7]), (12, [6, 7])]
abbrev lv3ZnQ : List (Nat × List Nat) := [(0, [1, 2, 3]), (1, [1, 2, 3, 16]), (2, [6]), (3, [1, 2, 3, 7]), (4, [1, 2, 3, 7, 8, 9, 10]), (5, [3, 7, 8, 9, 10, 11, 12, 13]), (6, [6])]
abbrev lv6ZnQ : List (Nat × List Nat) := [(0, [1, 2, 3]), (1, [1, 2, 3, 14]), (2, [6]), (3, [1, 2, 3, 7]), (4, [1, 2, 3, 7, 8, 9]), (5, [3, 7, 8, 9, 10, 11]), (6, [6])]
inductive RFr : AV → Int → Int → AV → Prop
  | chk {low zs w k} : zs.length ≤ 1000000 → (∀ z ∈ zs, z.2.length ≤ 1000000) → zzchk low zs ≠ 0 → RFr (zzv low zs) w k (.tup [.agg [iv 0, .nil], iv (zzchk low zs)])
  | ord {a b w k} : Vzz a b → (k < 0 ∨ 6 < k) → RFr (zzn a.1 a b) w k (.tup [.agg [iv 0, .nil], iv 2])
  | rng {a b : Zn} {w : Int} {q : Nat} : Vzz a b → q ≤ 6 → (w < 0 ∨ ((a.1 + b.1 : Nat) : Int) ≤ w) → RFr (zzn a.1 a b) w (q : Nat) (.tup [.agg [iv 0, .nil], iv 2])
  | e0 {a b : Zn} {w : Int} {q : Nat} {e : Int} : Vzz a b → q ≤ 6 → 0 ≤ w → w < a.1 → FrE a w q e → RFr (zzn a.1 a b) w (q : Nat) (.tup [.agg [iv 0, .nil], iv e])
  | e1 {a b : Zn} {w : Int} {q : Nat} {e : Int} : Vzz a b → q ≤ 6 → a.1 ≤ w → w < ((a.1 + b.1 : Nat) : Int) → FrE b (w - a.1) q e → RFr (zzn a.1 a b) w (q : Nat) (.tup [.agg [iv 0, .nil], iv e])
  | o0 {a b c : Zn} {w : Int} {q : Nat} : Vzz a b → q ≤ 6 → 0 ≤ w → w < a.1 → c.2.length ≤ 1000000 → FrO a c w q → RFr (zzn a.1 a b) w (q : Nat) (.tup [zzn a.1 c b, iv 0])
  | o1 {a b c : Zn} {w : Int} {q : Nat} : Vzz a b → q ≤ 6 → a.1 ≤ w → w < ((a.1 + b.1 : Nat) : Int) → c.2.length ≤ 1000000 → FrO b c (w - a.1) q → RFr (zzn a.1 a b) w (q : Nat) (.tup [zzn a.1 a c, iv 0])
def rzFrS : Spec := { al := true, rel := fun args ins res outs => ∃ (z : AV) (w k : Int), RFr z w k res ∧ args = [z, iv w, iv k] ∧ ins = [] ∧ outs = [] }
set_option maxHeartbeats 8000000 in
theorem rzFr_ok : Ok Try.prog 33 rzFrS := by
  refine fn_ok rzFrS Try.func33 rfl rfl ?_
  rintro args ins res outs ⟨z, w, k, hz, rfl, rfl, rfl⟩
  refine ⟨by simp [Try.ntmps33], fun w0 V Bo mu0 => ?_⟩
  cases hz with
  | chk hl hz hc =>
    repeat' (first
      | (with_reducible first | refine W_seq ?_ | refine W_condT rfl ?_ | refine W_condF rfl ?_ | refine W_tf rfl (fun h => ?_) (fun h => ?_) | refine endQ_ret ?_ | refine endQ_normal ?_)
      | ((with_reducible first | refine hK _ ?_ | refine hK _ _ ?_); clear hK K)
      | ((first | (with_reducible first | refine ops_cons (fun K hK => ?_) | refine opsd_cons (fun K hK => ?_) | refine ops_nil ?_ | refine fit_i64 (by omega) ?_ | refine fit_any ?_) | ((with_reducible refine opsd_nil ?_); refine And.intro (by kernel_rfl) ?_) | with_reducible refine callV_snap ?_ | ((with_reducible refine call_go rCkzS rCkz_ok ?_); refine ⟨(by first | exact alOk_nil _ | exact alOk_f rfl), _, _, rCkz_at _ _ hl hz, ?_⟩) | (with_reducible first | refine idx_map (by omega) ?_ | refine W_reg lv33ZnQ ?_ | refine W_drw lv33ZnQ (by kernel_rfl) ?_ | refine W_skip ?_ | refine W_ret ?_ | refine end_at0 ?_) | (with_reducible refine And.intro (fun h => ?_) (fun h => ?_)) | (with_reducible refine And.intro (by omega) ?_)); (try simp only [go_sem, seval, reduceCtorEq, hc, lv33ZnQ, Try.ntmps33, Try.results33, rzFrS]))
      | fail)
  | ord hv ho =>
    by_cases c1 : k < 0
    · skip
      repeat' (first
        | (with_reducible first | refine W_seq ?_ | refine W_condT rfl ?_ | refine W_condF rfl ?_ | refine W_tf rfl (fun h => ?_) (fun h => ?_) | refine endQ_ret ?_ | refine endQ_normal ?_)
        | ((with_reducible first | refine hK _ ?_ | refine hK _ _ ?_); clear hK K)
        | ((first | (with_reducible first | refine ops_cons (fun K hK => ?_) | refine opsd_cons (fun K hK => ?_) | refine ops_nil ?_ | refine fit_i64 (by omega) ?_ | refine fit_any ?_) | ((with_reducible refine opsd_nil ?_); refine And.intro (by kernel_rfl) ?_) | with_reducible refine callV_snap ?_ | ((with_reducible refine call_go rCkvS rCkv_ok ?_); refine ⟨(by first | exact alOk_nil _ | exact alOk_f rfl), _, _, rCkv_at hv, ?_⟩) | (with_reducible first | refine idx_map (by omega) ?_ | refine W_reg lv33ZnQ ?_ | refine W_drw lv33ZnQ (by kernel_rfl) ?_ | refine W_skip ?_ | refine W_ret ?_ | refine end_at0 ?_) | (with_reducible refine And.intro (fun h => ?_) (fun h => ?_)) | (with_reducible refine And.intro (by omega) ?_)); (try simp only [go_sem, seval, reduceCtorEq, c1, lv33ZnQ, Try.ntmps33, Try.results33, rzFrS]))
        | fail)
    · have c2 : 6 < k := by omega
      repeat' (first
        | (with_reducible first | refine W_seq ?_ | refine W_condT rfl ?_ | refine W_condF rfl ?_ | refine W_tf rfl (fun h => ?_) (fun h => ?_) | refine endQ_ret ?_ | refine endQ_normal ?_)
        | ((with_reducible first | refine hK _ ?_ | refine hK _ _ ?_); clear hK K)
        | ((first | (with_reducible first | refine ops_cons (fun K hK => ?_) | refine opsd_cons (fun K hK => ?_) | refine ops_nil ?_ | refine fit_i64 (by omega) ?_ | refine fit_any ?_) | ((with_reducible refine opsd_nil ?_); refine And.intro (by kernel_rfl) ?_) | with_reducible refine callV_snap ?_ | ((with_reducible refine call_go rCkvS rCkv_ok ?_); refine ⟨(by first | exact alOk_nil _ | exact alOk_f rfl), _, _, rCkv_at hv, ?_⟩) | (with_reducible first | refine idx_map (by omega) ?_ | refine W_reg lv33ZnQ ?_ | refine W_drw lv33ZnQ (by kernel_rfl) ?_ | refine W_skip ?_ | refine W_ret ?_ | refine end_at0 ?_) | (with_reducible refine And.intro (fun h => ?_) (fun h => ?_)) | (with_reducible refine And.intro (by omega) ?_)); (try simp only [go_sem, seval, reduceCtorEq, c1, c2, lv33ZnQ, Try.ntmps33, Try.results33, rzFrS]))
        | fail)
  | rng hv hq hw =>
    rename_i a b q
    have c1 : ¬ (q : Int) < 0 := by omega
    have c2 : ¬ 6 < (q : Int) := by omega
    by_cases c3 : w < 0
    · skip
      repeat' (first
        | (with_reducible first | refine W_seq ?_ | refine W_condT rfl ?_ | refine W_condF rfl ?_ | refine W_tf rfl (fun h => ?_) (fun h => ?_) | refine endQ_ret ?_ | refine endQ_normal ?_)
        | ((with_reducible first | refine hK _ ?_ | refine hK _ _ ?_); clear hK K)
        | ((first | (with_reducible first | refine ops_cons (fun K hK => ?_) | refine opsd_cons (fun K hK => ?_) | refine ops_nil ?_ | refine fit_i64 (by omega) ?_ | refine fit_any ?_) | ((with_reducible refine opsd_nil ?_); refine And.intro (by kernel_rfl) ?_) | with_reducible refine callV_snap ?_ | ((with_reducible refine call_go rCkvS rCkv_ok ?_); refine ⟨(by first | exact alOk_nil _ | exact alOk_f rfl), _, _, rCkv_at hv, ?_⟩) | (with_reducible first | refine idx_map (by omega) ?_ | refine W_reg lv33ZnQ ?_ | refine W_drw lv33ZnQ (by kernel_rfl) ?_ | refine W_skip ?_ | refine W_ret ?_ | refine end_at0 ?_) | (with_reducible refine And.intro (fun h => ?_) (fun h => ?_)) | (with_reducible refine And.intro (by omega) ?_)); (try simp only [go_sem, seval, reduceCtorEq, c1, c2, c3, lv33ZnQ, Try.ntmps33, Try.results33, rzFrS]))
        | fail)
    · have c4 : ((a.1 + b.1 : Nat) : Int) ≤ w := by omega
      repeat' (first
        | (with_reducible first | refine W_seq ?_ | refine W_condT rfl ?_ | refine W_condF rfl ?_ | refine W_tf rfl (fun h => ?_) (fun h => ?_) | refine endQ_ret ?_ | refine endQ_normal ?_)
        | ((with_reducible first | refine hK _ ?_ | refine hK _ _ ?_); clear hK K)
        | ((first | (with_reducible first | refine ops_cons (fun K hK => ?_) | refine opsd_cons (fun K hK => ?_) | refine ops_nil ?_ | refine fit_i64 (by omega) ?_ | refine fit_any ?_) | ((with_reducible refine opsd_nil ?_); refine And.intro (by kernel_rfl) ?_) | with_reducible refine callV_snap ?_ | ((with_reducible refine call_go rCkvS rCkv_ok ?_); refine ⟨(by first | exact alOk_nil _ | exact alOk_f rfl), _, _, rCkv_at hv, ?_⟩) | ((with_reducible refine call_go rframevS rframev_ok ?_); refine ⟨(by first | exact alOk_nil _ | exact alOk_f rfl), _, _, rframev_at hv, ?_⟩) | (with_reducible first | refine idx_map (by omega) ?_ | refine W_reg lv33ZnQ ?_ | refine W_drw lv33ZnQ (by kernel_rfl) ?_ | refine W_skip ?_ | refine W_ret ?_ | refine end_at0 ?_) | (with_reducible refine And.intro (fun h => ?_) (fun h => ?_)) | (with_reducible refine And.intro (by omega) ?_)); (try simp only [go_sem, seval, reduceCtorEq, c1, c2, c3, c4, lv33ZnQ, Try.ntmps33, Try.results33, rzFrS]))
        | fail)
  | e0 hv hq h0 h1 he =>
    rename_i a b q e
    have hle := hv.le
    have c1 : ¬ (q : Int) < 0 := by omega
    have c2 : ¬ 6 < (q : Int) := by omega
    have c3 : ¬ w < 0 := by omega
    have c4 : ¬ ((a.1 + b.1 : Nat) : Int) ≤ w := by omega
    have c5 : ¬ (a.1 : Int) ≤ w := by omega
    obtain ⟨hne, hF⟩ := he
    have rFreeF_at : rFreeFS.rel [.agg [iv a.1, dN a.2], iv w, iv q] [] (.tup [.agg [iv 0, dN []], iv e]) [] := hF
    repeat' (first
      | (with_reducible first | refine W_seq ?_ | refine W_condT rfl ?_ | refine W_condF rfl ?_ | refine W_tf rfl (fun h => ?_) (fun h => ?_) | refine endQ_ret ?_ | refine endQ_normal ?_)
      | ((with_reducible first | refine hK _ ?_ | refine hK _ _ ?_); clear hK K)
      | ((first | (with_reducible first | refine ops_cons (fun K hK => ?_) | refine opsd_cons (fun K hK => ?_) | refine ops_nil ?_ | refine fit_i64 (by omega) ?_ | refine fit_any ?_) | ((with_reducible refine opsd_nil ?_); refine And.intro (by kernel_rfl) ?_) | with_reducible refine callV_snap ?_ | ((with_reducible refine call_go rCkvS rCkv_ok ?_); refine ⟨(by first | exact alOk_nil _ | exact alOk_f rfl), _, _, rCkv_at hv, ?_⟩) | ((with_reducible refine call_go rframevS rframev_ok ?_); refine ⟨(by first | exact alOk_nil _ | exact alOk_f rfl), _, _, rframev_at hv, ?_⟩) | ((with_reducible refine call_go rFreeFS rFreeF_ok ?_); refine ⟨(by first | exact alOk_nil _ | exact alOk_f rfl), _, _, rFreeF_at , ?_⟩) | (with_reducible first | refine idx_map (by omega) ?_ | refine W_reg lv33ZnQ ?_ | refine W_drw lv33ZnQ (by kernel_rfl) ?_ | refine W_skip ?_ | refine W_ret ?_ | refine end_at0 ?_) | (with_reducible refine And.intro (fun h => ?_) (fun h => ?_)) | (with_reducible refine And.intro (by omega) ?_)); (try simp only [go_sem, seval, reduceCtorEq, c1, c2, c3, c4, c5, hne, Int.zero_mul, Int.sub_zero, lv33ZnQ, Try.ntmps33, Try.results33, rzFrS]))
      | fail)
  | e1 hv hq h0 h1 he =>
    rename_i a b q e
    have hle := hv.le
    have c1 : ¬ (q : Int) < 0 := by omega
    have c2 : ¬ 6 < (q : Int) := by omega
    have c3 : ¬ w < 0 := by omega
    have c4 : ¬ ((a.1 + b.1 : Nat) : Int) ≤ w := by omega
    have c5 : (a.1 : Int) ≤ w := by omega
    obtain ⟨hne, hF⟩ := he
    have rFreeF_at : rFreeFS.rel [.agg [iv b.1, dN b.2], iv (w - a.1), iv q] [] (.tup [.agg [iv 0, dN []], iv e]) [] := hF
    repeat' (first
      | (with_reducible first | refine W_seq ?_ | refine W_condT rfl ?_ | refine W_condF rfl ?_ | refine W_tf rfl (fun h => ?_) (fun h => ?_) | refine endQ_ret ?_ | refine endQ_normal ?_)
      | ((with_reducible first | refine hK _ ?_ | refine hK _ _ ?_); clear hK K)
      | ((first | (with_reducible first | refine ops_cons (fun K hK => ?_) | refine opsd_cons (fun K hK => ?_) | refine ops_nil ?_ | refine fit_i64 (by omega) ?_ | refine fit_any ?_) | ((with_reducible refine opsd_nil ?_); refine And.intro (by kernel_rfl) ?_) | with_reducible refine callV_snap ?_ | ((with_reducible refine call_go rCkvS rCkv_ok ?_); refine ⟨(by first | exact alOk_nil _ | exact alOk_f rfl), _, _, rCkv_at hv, ?_⟩) | ((with_reducible refine call_go rframevS rframev_ok ?_); refine ⟨(by first | exact alOk_nil _ | exact alOk_f rfl), _, _, rframev_at hv, ?_⟩) | ((with_reducible refine call_go rFreeFS rFreeF_ok ?_); refine ⟨(by first | exact alOk_nil _ | exact alOk_f rfl), _, _, rFreeF_at , ?_⟩) | (with_reducible first | refine idx_map (by omega) ?_ | refine W_reg lv33ZnQ ?_ | refine W_drw lv33ZnQ (by kernel_rfl) ?_ | refine W_skip ?_ | refine W_ret ?_ | refine end_at0 ?_) | (with_reducible refine And.intro (fun h => ?_) (fun h => ?_)) | (with_reducible refine And.intro (by omega) ?_)); (try simp only [go_sem, seval, reduceCtorEq, c1, c2, c3, c4, c5, hne, Int.one_mul, lv33ZnQ, Try.ntmps33, Try.results33, rzFrS]))
      | fail)
  | o0 hv hq h0 h1 hc hF =>
    rename_i a b c q
    have hle := hv.le
    have c1 : ¬ (q : Int) < 0 := by omega
    have c2 : ¬ 6 < (q : Int) := by omega
    have c3 : ¬ w < 0 := by omega
    have c4 : ¬ ((a.1 + b.1 : Nat) : Int) ≤ w := by omega
    have c5 : ¬ (a.1 : Int) ≤ w := by omega
    have rFreeF_at : rFreeFS.rel [.agg [iv a.1, dN a.2], iv w, iv q] [] (.tup [.agg [iv c.1, dN c.2], iv 0]) [] := hF
    repeat' (first
      | (with_reducible first | refine W_seq ?_ | refine W_condT rfl ?_ | refine W_condF rfl ?_ | refine W_tf rfl (fun h => ?_) (fun h => ?_) | refine endQ_ret ?_ | refine endQ_normal ?_)
      | ((with_reducible first | refine hK _ ?_ | refine hK _ _ ?_); clear hK K)
      | ((first | (with_reducible first | refine ops_cons (fun K hK => ?_) | refine opsd_cons (fun K hK => ?_) | refine ops_nil ?_ | refine fit_i64 (by omega) ?_ | refine fit_any ?_) | ((with_reducible refine opsd_nil ?_); refine And.intro (by kernel_rfl) ?_) | with_reducible refine callV_snap ?_ | ((with_reducible refine call_go rCkvS rCkv_ok ?_); refine ⟨(by first | exact alOk_nil _ | exact alOk_f rfl), _, _, rCkv_at hv, ?_⟩) | ((with_reducible refine call_go rframevS rframev_ok ?_); refine ⟨(by first | exact alOk_nil _ | exact alOk_f rfl), _, _, rframev_at hv, ?_⟩) | ((with_reducible refine call_go rFreeFS rFreeF_ok ?_); refine ⟨(by first | exact alOk_nil _ | exact alOk_f rfl), _, _, rFreeF_at , ?_⟩) | ((with_reducible refine call_go rwAFS rwAF_ok ?_); refine ⟨(by first | exact alOk_nil _ | exact alOk_f rfl), _, _, rwAF_at a.1 a b c hv.l2a hv.l2b hc, ?_⟩) | (with_reducible first | refine idx_map (by omega) ?_ | refine W_reg lv33ZnQ ?_ | refine W_drw lv33ZnQ (by kernel_rfl) ?_ | refine W_skip ?_ | refine W_ret ?_ | refine end_at0 ?_) | (with_reducible refine And.intro (fun h => ?_) (fun h => ?_)) | (with_reducible refine And.intro (by omega) ?_)); (try simp only [go_sem, seval, reduceCtorEq, c1, c2, c3, c4, c5, Int.zero_mul, Int.sub_zero, lv33ZnQ, Try.ntmps33, Try.results33, rzFrS]))
      | fail)
  | o1 hv hq h0 h1 hc hF =>
    rename_i a b c q
    have hle := hv.le
    have c1 : ¬ (q : Int) < 0 := by omega
    have c2 : ¬ 6 < (q : Int) := by omega
    have c3 : ¬ w < 0 := by omega
    have c4 : ¬ ((a.1 + b.1 : Nat) : Int) ≤ w := by omega
    have c5 : (a.1 : Int) ≤ w := by omega
    have rFreeF_at : rFreeFS.rel [.agg [iv b.1, dN b.2], iv (w - a.1), iv q] [] (.tup [.agg [iv c.1, dN c.2], iv 0]) [] := hF
    repeat' (first
      | (with_reducible first | refine W_seq ?_ | refine W_condT rfl ?_ | refine W_condF rfl ?_ | refine W_tf rfl (fun h => ?_) (fun h => ?_) | refine endQ_ret ?_ | refine endQ_normal ?_)
      | ((with_reducible first | refine hK _ ?_ | refine hK _ _ ?_); clear hK K)
      | ((first | (with_reducible first | refine ops_cons (fun K hK => ?_) | refine opsd_cons (fun K hK => ?_) | refine ops_nil ?_ | refine fit_i64 (by omega) ?_ | refine fit_any ?_) | ((with_reducible refine opsd_nil ?_); refine And.intro (by kernel_rfl) ?_) | with_reducible refine callV_snap ?_ | ((with_reducible refine call_go rCkvS rCkv_ok ?_); refine ⟨(by first | exact alOk_nil _ | exact alOk_f rfl), _, _, rCkv_at hv, ?_⟩) | ((with_reducible refine call_go rframevS rframev_ok ?_); refine ⟨(by first | exact alOk_nil _ | exact alOk_f rfl), _, _, rframev_at hv, ?_⟩) | ((with_reducible refine call_go rFreeFS rFreeF_ok ?_); refine ⟨(by first | exact alOk_nil _ | exact alOk_f rfl), _, _, rFreeF_at , ?_⟩) | ((with_reducible refine call_go rwBFS rwBF_ok ?_); refine ⟨(by first | exact alOk_nil _ | exact alOk_f rfl), _, _, rwBF_at a.1 a b c hv.l2a hv.l2b hc, ?_⟩) | (with_reducible first | refine idx_map (by omega) ?_ | refine W_reg lv33ZnQ ?_ | refine W_drw lv33ZnQ (by kernel_rfl) ?_ | refine W_skip ?_ | refine W_ret ?_ | refine end_at0 ?_) | (with_reducible refine And.intro (fun h => ?_) (fun h => ?_)) | (with_reducible refine And.intro (by omega) ?_)); (try simp only [go_sem, seval, reduceCtorEq, c1, c2, c3, c4, c5, Int.one_mul, lv33ZnQ, Try.ntmps33, Try.results33, rzFrS]))
      | fail)
abbrev rzFrFS : Spec := frzS rzFrS
theorem rzFrF_ok : Ok Try.prog 33 rzFrFS := frzS_ok rzFr_ok

/-- what the freeing of a block in a valid zone answers -/
theorem fr_ex {z : Zn} (hv : Vz z.1 z.2) (w : Int) {q : Nat} (hq : q ≤ 6) : (∃ e, FrE z w q e) ∨ ∃ c : Zn, c.2.length ≤ 1000000 ∧ FrO z c w q := by
  by_cases h1 : askB z.1 (z.2.map toI) w q = 0
  · obtain ⟨N, m, w', q', e1, e2, rfl, e4, hb⟩ := vb_of h1
    have hN : z.1 = N := by omega
    have hm := toI_inj _ _ e2
    have hqq : q = q' := by omega
    subst hqq hN hm
    rcases Classical.em (Nofr z.2 w' q) with h2 | h2
    · exact .inr ⟨(z.1, bld z.1 (frF z.2 w' q)), bld_le hv.v.n, free_at' hv hb.b h2 rfl⟩
    · exact .inl ⟨7, by decide, rfl, rfl, _, _, .inr (.inl ⟨z.1, z.2, w', q, hb, h2, rfl, rfl, rfl, rfl⟩), frz_e [] _ [.int .i64 7] rfl⟩
  · refine .inl ⟨askB z.1 (z.2.map toI) w q, h1, ?_⟩
    have : (frzS FreeS).rel [zv z.1 (z.2.map toI), iv w, iv q] [] (.tup [.agg [iv 0, dN []], iv (askB z.1 (z.2.map toI) w q)]) [] := ⟨rfl, rfl, _, _, .inl ⟨z.1, z.2.map toI, w, q, by have := hv.v.len; simp; omega, h1, rfl, rfl, rfl, rfl⟩, frz_e [] _ [.int .i64 _] rfl⟩
    rwa [zv_toI] at this
theorem fr_over {z : Zn} (hv : Vz z.1 z.2) {w : Int} {q : Nat} (hq : q ≤ 6) (h : (z.1 : Int) - ((2 ^ q : Nat) : Int) < w) : FrE z w q 2 := by
  have e : askB z.1 (z.2.map toI) w q = 2 := by
    unfold askB
    rw [askE_ok hv.c1 (by omega), if_neg (by simp), if_pos]
    rw [Int.toNat_natCast, pow_nat]; exact .inr h
  refine ⟨by decide, ?_⟩
  have : (frzS FreeS).rel [zv z.1 (z.2.map toI), iv w, iv q] [] (.tup [.agg [iv 0, dN []], iv (askB z.1 (z.2.map toI) w q)]) [] := ⟨rfl, rfl, _, _, .inl ⟨z.1, z.2.map toI, w, q, by have := hv.v.len; simp; omega, by rw [e]; decide, rfl, rfl, rfl, rfl⟩, frz_e [] _ [.int .i64 _] rfl⟩
  rwa [zv_toI, e] at this
/-- what both sides' Free answers -/
theorem zfr_ex (low : Int) (zs : List Zo) (w k : Int) (h1 : zs.length ≤ 1000000) (h2 : ∀ z ∈ zs, z.2.length ≤ 1000000) :
    ∃ (l : Int) (zs' : List Zo) (e : Int), zs'.length ≤ 1000000 ∧ (∀ z ∈ zs', z.2.length ≤ 1000000) ∧ zFrFS.rel [zzv low zs, iv w, iv k] [] (.tup [zzv l zs', iv e]) [] ∧ rzFrFS.rel [zzv low zs, iv w, iv k] [] (.tup [zzv l zs', iv e]) [] := by
  have bad : ∀ {z : AV} {e : Int}, ZFr z w k (.tup [.agg [iv 0, .nil], iv e]) → RFr z w k (.tup [.agg [iv 0, .nil], iv e]) → ∃ (l : Int) (zs' : List Zo) (e : Int), zs'.length ≤ 1000000 ∧ (∀ z ∈ zs', z.2.length ≤ 1000000) ∧ zFrFS.rel [z, iv w, iv k] [] (.tup [zzv l zs', iv e]) [] ∧ rzFrFS.rel [z, iv w, iv k] [] (.tup [zzv l zs', iv e]) [] := by
    intro z e g1 g2
    exact ⟨0, [], e, by simp, by simp, ⟨rfl, rfl, _, _, ⟨_, _, _, g1, rfl, rfl, rfl⟩, by simp [frz, frzA, frzAL, frzL, frz1]⟩, ⟨rfl, rfl, _, _, ⟨_, _, _, g2, rfl, rfl, rfl⟩, by simp [frz, frzA, frzAL, frzL, frz1]⟩⟩
  have good : ∀ {z : AV} {l : Int} {a b : Zn}, a.2.length ≤ 1000000 → b.2.length ≤ 1000000 → ZFr z w k (.tup [zzn l a b, iv 0]) → RFr z w k (.tup [zzn l a b, iv 0]) → ∃ (l : Int) (zs' : List Zo) (e : Int), zs'.length ≤ 1000000 ∧ (∀ z ∈ zs', z.2.length ≤ 1000000) ∧ zFrFS.rel [z, iv w, iv k] [] (.tup [zzv l zs', iv e]) [] ∧ rzFrFS.rel [z, iv w, iv k] [] (.tup [zzv l zs', iv e]) [] := by
    intro z l a b ha hb g1 g2
    refine ⟨l, [toZ a, toZ b], 0, by simp, zzn_le ha hb, ?_, ?_⟩ <;> rw [zz2_eq, zz2_toZ]
    · exact ⟨rfl, rfl, _, _, ⟨_, _, _, g1, rfl, rfl, rfl⟩, by simp [frz, frzA, frzAL, frzL, frz1]⟩
    · exact ⟨rfl, rfl, _, _, ⟨_, _, _, g2, rfl, rfl, rfl⟩, by simp [frz, frzA, frzAL, frzL, frz1]⟩
  by_cases hc : zzchk low zs = 0
  case neg => exact bad (.chk h1 h2 hc) (.chk h1 h2 hc)
  obtain ⟨a, b, rfl, rfl, hv⟩ := vzz_of hc
  rw [zz2_eq, zz2_toZ]
  by_cases hk : k < 0 ∨ 6 < k
  · exact bad (.ord hv hk) (.ord hv hk)
  obtain ⟨q, rfl⟩ := Int.eq_ofNat_of_zero_le (show 0 ≤ k by omega)
  have hq : q ≤ 6 := by omega
  have hp := p64 q hq
  by_cases hw : w < 0 ∨ ((a.1 + b.1 : Nat) : Int) ≤ w
  · refine bad (.rng hv hq ?_) (.rng hv hq hw)
    unfold zof
    rw [if_neg (by omega), if_neg (by omega)]
  by_cases hlo : w < a.1
  · by_cases hx : w ≤ (a.1 : Int) - ((2 ^ q : Nat) : Int)
    · have hz : zof a.1 ((a.1 + b.1 : Nat) : Int) w ((2 ^ q : Nat) : Int) = (0, 0) := by unfold zof; rw [if_pos (by omega)]
      rcases fr_ex hv.fa w hq with ⟨e, he⟩ | ⟨c, hc1, hc2⟩
      · exact bad (.e0 hv hq hz he) (.e0 hv hq (by omega) hlo he)
      · exact good hc1 hv.l2b (.o0 hv hq hz hc2) (.o0 hv hq (by omega) hlo hc1 hc2)
    · have hz : zof a.1 ((a.1 + b.1 : Nat) : Int) w ((2 ^ q : Nat) : Int) = (0, 2) := by unfold zof; rw [if_neg (by omega), if_neg (by omega)]
      exact bad (.rng hv hq hz) (.e0 hv hq (by omega) hlo (fr_over hv.fa hq (by omega)))
  · by_cases hx : w ≤ ((a.1 + b.1 : Nat) : Int) - ((2 ^ q : Nat) : Int)
    · have hz : zof a.1 ((a.1 + b.1 : Nat) : Int) w ((2 ^ q : Nat) : Int) = (1, 0) := by unfold zof; rw [if_neg (by omega), if_pos (by omega)]
      rcases fr_ex hv.fb (w - a.1) hq with ⟨e, he⟩ | ⟨c, hc1, hc2⟩
      · exact bad (.e1 hv hq hz (by omega) he) (.e1 hv hq (by omega) (by omega) he)
      · exact good hv.l2a hc1 (.o1 hv hq hz hc2) (.o1 hv hq (by omega) (by omega) hc1 hc2)
    · have hz : zof a.1 ((a.1 + b.1 : Nat) : Int) w ((2 ^ q : Nat) : Int) = (0, 2) := by unfold zof; rw [if_neg (by omega), if_neg (by omega)]
      exact bad (.rng hv hq hz) (.e1 hv hq (by omega) (by omega) (fr_over hv.fb hq (by omega)))
theorem zall_ex (low : Int) (zs : List Zo) (o p : Int) (h1 : zs.length ≤ 1000000) (h2 : ∀ z ∈ zs, z.2.length ≤ 1000000) :
    ∃ (l : Int) (zs' : List Zo) (w e : Int), zs'.length ≤ 1000000 ∧ (∀ z ∈ zs', z.2.length ≤ 1000000) ∧ zAllFS.rel [zzv low zs, iv o, iv p] [] (.tup [zzv l zs', iv w, iv e]) [] ∧ rzAllFS.rel [zzv low zs, iv o, iv p] [] (.tup [zzv l zs', iv w, iv e]) [] := by
  by_cases hc : alcE low zs o p = 0
  · unfold alcE at hc
    by_cases h3 : zzchk low zs = 0
    · obtain ⟨a, b, rfl, rfl, hv⟩ := vzz_of h3
      rw [if_neg (by simpa using h3)] at hc
      by_cases h4 : (o < 0 ∨ 6 < o) ∨ ¬ (p = 0 ∨ p = 1)
      · rw [if_pos h4] at hc; cases hc
      · obtain ⟨q, rfl⟩ := Int.eq_ofNat_of_zero_le (show 0 ≤ o by omega)
        have g1 := zall_at hv (show q ≤ 6 by omega) (show p = 0 ∨ p = 1 by omega)
        have g2 := rzall_at hv (show q ≤ 6 by omega) (show p = 0 ∨ p = 1 by omega)
        rw [zz2_eq, zz2_toZ]
        cases hr : alcZ a b q p with
        | none => rw [hr] at g1 g2; exact ⟨0, [], 0, 5, by simp, by simp, g1, g2⟩
        | some r =>
          rw [hr] at g1 g2
          have hv2 := (alc_law hv (show q ≤ 6 by omega) hr).v
          refine ⟨a.1, [toZ r.1, toZ r.2.1], r.2.2, 0, by simp, zzn_le hv2.l2a hv2.l2b, ?_, ?_⟩ <;> rw [zz2_eq, zz2_toZ] <;> assumption
    · rw [if_pos h3] at hc; exact absurd hc h3
  · exact ⟨0, [], 0, alcE low zs o p, by simp, by simp, ⟨rfl, rfl, _, _, .inl ⟨low, zs, o, p, h1, h2, hc, rfl, rfl, rfl, rfl⟩, by simp [frz, frzA, frzAL, frzL, frz1]⟩, ⟨rfl, rfl, _, _, .inl ⟨low, zs, o, p, h1, h2, hc, rfl, rfl, rfl, rfl⟩, by simp [frz, frzA, frzAL, frzL, frz1]⟩⟩
def alsS : Spec := { rel := fun args ins res outs => ∃ (low : Int) (zs : List Zo) (o p : Int), zs.length ≤ 9223372036854775807 ∧ (∀ z ∈ zs, z.2.length ≤ 9223372036854775807) ∧ args = [zzv low zs, iv o, iv p] ∧ ins = [] ∧ res = bv true ∧ outs = [] }
set_option maxHeartbeats 8000000 in
theorem als_ok : Ok Try.prog 3 alsS := by
  refine fn_ok alsS Try.func3 rfl rfl ?_
  rintro args ins res outs ⟨low, zs, o, p, hl, hz, rfl, rfl, rfl, rfl⟩
  refine ⟨by simp [Try.ntmps3], fun w0 V Bo mu0 => ?_⟩
  by_cases h1 : zs.length ≤ 3 ∧ ∀ z ∈ zs, z.2.length ≤ 130
  · have g := lght_at low zs hl hz
    rw [decide_eq_true h1] at g
    have lght_at : lghtS.rel [zzv low zs] [] (bv true) [] := g
    have hl6 : zs.length ≤ 1000000 := by omega
    have hz6 : ∀ z ∈ zs, z.2.length ≤ 1000000 := fun z hz => by have := h1.2 z hz; omega
    obtain ⟨l1, z1, w1, e1, L1, M1, g1, g2⟩ := zall_ex low zs o p hl6 hz6
    have zAllF_at := g1
    have rzAllF_at := g2
    repeat' (first
      | (with_reducible first | refine W_seq ?_ | refine W_condT rfl ?_ | refine W_condF rfl ?_ | refine W_tf rfl (fun h => ?_) (fun h => ?_) | refine endQ_ret ?_ | refine endQ_normal ?_)
      | ((with_reducible first | refine hK _ ?_ | refine hK _ _ ?_); clear hK K)
      | ((first | (with_reducible first | refine ops_cons (fun K hK => ?_) | refine ops_nil ?_) | with_reducible refine callV_snap ?_ | ((with_reducible refine call_go lghtS lght_ok ?_); refine ⟨(by first | exact alOk_nil _ | exact alOk_f rfl), _, _, lght_at , ?_⟩) | ((with_reducible refine call_go OwnZFS OwnZF_ok ?_); refine ⟨(by first | exact alOk_nil _ | exact alOk_f rfl), _, _, OwnZF_at low zs hl6 hz6, ?_⟩) | ((with_reducible refine call_go zAllFS zAllF_ok ?_); refine ⟨(by first | exact alOk_nil _ | exact alOk_f rfl), _, _, zAllF_at , ?_⟩) | ((with_reducible refine call_go rzAllFS rzAllF_ok ?_); refine ⟨(by first | exact alOk_nil _ | exact alOk_f rfl), _, _, rzAllF_at , ?_⟩) | ((with_reducible refine call_go SmZS SmZ_ok ?_); refine ⟨(by first | exact alOk_nil _ | exact alOk_f rfl), _, _, SmZ_at l1 z1 L1 M1, ?_⟩) | ((with_reducible refine call_go SmZS SmZ_ok ?_); refine ⟨(by first | exact alOk_nil _ | exact alOk_f rfl), _, _, SmZ_at low zs hl6 hz6, ?_⟩) | ((with_reducible refine call_go awkS awk_ok ?_); refine ⟨(by first | exact alOk_nil _ | exact alOk_f rfl), _, _, awk_at , ?_⟩) | (with_reducible first | refine W_reg lv3ZnQ ?_ | refine W_skip ?_ | refine W_ret ?_ | refine end_at0 ?_) | (with_reducible refine And.intro (fun h => ?_) (fun h => ?_)) | (with_reducible refine And.intro (by omega) ?_)); (try simp only [go_sem, seval, reduceCtorEq, lv3ZnQ, Try.ntmps3, Try.results3, alsS]))
      | fail)
  · have g := lght_at low zs hl hz
    rw [decide_eq_false h1] at g
    have lght_at : lghtS.rel [zzv low zs] [] (bv false) [] := g
    repeat' (first
      | (with_reducible first | refine W_seq ?_ | refine W_condT rfl ?_ | refine W_condF rfl ?_ | refine W_tf rfl (fun h => ?_) (fun h => ?_) | refine endQ_ret ?_ | refine endQ_normal ?_)
      | ((with_reducible first | refine hK _ ?_ | refine hK _ _ ?_); clear hK K)
      | ((first | (with_reducible first | refine ops_cons (fun K hK => ?_) | refine ops_nil ?_) | with_reducible refine callV_snap ?_ | ((with_reducible refine call_go lghtS lght_ok ?_); refine ⟨(by first | exact alOk_nil _ | exact alOk_f rfl), _, _, lght_at , ?_⟩) | ((with_reducible refine call_go awkS awk_ok ?_); refine ⟨(by first | exact alOk_nil _ | exact alOk_f rfl), _, _, awk_at , ?_⟩) | (with_reducible first | refine W_reg lv3ZnQ ?_ | refine W_skip ?_ | refine W_ret ?_ | refine end_at0 ?_) | (with_reducible refine And.intro (fun h => ?_) (fun h => ?_)) | (with_reducible refine And.intro (by omega) ?_)); (try simp only [go_sem, seval, reduceCtorEq, lv3ZnQ, Try.ntmps3, Try.results3, alsS]))
      | fail)
set_option maxHeartbeats 8000000 in
theorem frs_ok : Ok Try.prog 6 alsS := by
  refine fn_ok alsS Try.func6 rfl rfl ?_
  rintro args ins res outs ⟨low, zs, o, p, hl, hz, rfl, rfl, rfl, rfl⟩
  refine ⟨by simp [Try.ntmps6], fun w0 V Bo mu0 => ?_⟩
  by_cases h1 : zs.length ≤ 3 ∧ ∀ z ∈ zs, z.2.length ≤ 130
  · have g := lght_at low zs hl hz
    rw [decide_eq_true h1] at g
    have lght_at : lghtS.rel [zzv low zs] [] (bv true) [] := g
    have hl6 : zs.length ≤ 1000000 := by omega
    have hz6 : ∀ z ∈ zs, z.2.length ≤ 1000000 := fun z hz => by have := h1.2 z hz; omega
    obtain ⟨l1, z1, e1, L1, M1, g1, g2⟩ := zfr_ex low zs o p hl6 hz6
    have zFrF_at := g1
    have rzFrF_at := g2
    repeat' (first
      | (with_reducible first | refine W_seq ?_ | refine W_condT rfl ?_ | refine W_condF rfl ?_ | refine W_tf rfl (fun h => ?_) (fun h => ?_) | refine endQ_ret ?_ | refine endQ_normal ?_)
      | ((with_reducible first | refine hK _ ?_ | refine hK _ _ ?_); clear hK K)
      | ((first | (with_reducible first | refine ops_cons (fun K hK => ?_) | refine ops_nil ?_) | with_reducible refine callV_snap ?_ | ((with_reducible refine call_go lghtS lght_ok ?_); refine ⟨(by first | exact alOk_nil _ | exact alOk_f rfl), _, _, lght_at , ?_⟩) | ((with_reducible refine call_go OwnZFS OwnZF_ok ?_); refine ⟨(by first | exact alOk_nil _ | exact alOk_f rfl), _, _, OwnZF_at low zs hl6 hz6, ?_⟩) | ((with_reducible refine call_go zFrFS zFrF_ok ?_); refine ⟨(by first | exact alOk_nil _ | exact alOk_f rfl), _, _, zFrF_at , ?_⟩) | ((with_reducible refine call_go rzFrFS rzFrF_ok ?_); refine ⟨(by first | exact alOk_nil _ | exact alOk_f rfl), _, _, rzFrF_at , ?_⟩) | ((with_reducible refine call_go SmZS SmZ_ok ?_); refine ⟨(by first | exact alOk_nil _ | exact alOk_f rfl), _, _, SmZ_at l1 z1 L1 M1, ?_⟩) | ((with_reducible refine call_go SmZS SmZ_ok ?_); refine ⟨(by first | exact alOk_nil _ | exact alOk_f rfl), _, _, SmZ_at low zs hl6 hz6, ?_⟩) | ((with_reducible refine call_go awkS awk_ok ?_); refine ⟨(by first | exact alOk_nil _ | exact alOk_f rfl), _, _, awk_at , ?_⟩) | (with_reducible first | refine W_reg lv6ZnQ ?_ | refine W_skip ?_ | refine W_ret ?_ | refine end_at0 ?_) | (with_reducible refine And.intro (fun h => ?_) (fun h => ?_)) | (with_reducible refine And.intro (by omega) ?_)); (try simp only [go_sem, seval, reduceCtorEq, lv6ZnQ, Try.ntmps6, Try.results6, alsS]))
      | fail)
  · have g := lght_at low zs hl hz
    rw [decide_eq_false h1] at g
    have lght_at : lghtS.rel [zzv low zs] [] (bv false) [] := g
    repeat' (first
      | (with_reducible first | refine W_seq ?_ | refine W_condT rfl ?_ | refine W_condF rfl ?_ | refine W_tf rfl (fun h => ?_) (fun h => ?_) | refine endQ_ret ?_ | refine endQ_normal ?_)
      | ((with_reducible first | refine hK _ ?_ | refine hK _ _ ?_); clear hK K)
      | ((first | (with_reducible first | refine ops_cons (fun K hK => ?_) | refine ops_nil ?_) | with_reducible refine callV_snap ?_ | ((with_reducible refine call_go lghtS lght_ok ?_); refine ⟨(by first | exact alOk_nil _ | exact alOk_f rfl), _, _, lght_at , ?_⟩) | ((with_reducible refine call_go awkS awk_ok ?_); refine ⟨(by first | exact alOk_nil _ | exact alOk_f rfl), _, _, awk_at , ?_⟩) | (with_reducible first | refine W_reg lv6ZnQ ?_ | refine W_skip ?_ | refine W_ret ?_ | refine end_at0 ?_) | (with_reducible refine And.intro (fun h => ?_) (fun h => ?_)) | (with_reducible refine And.intro (by omega) ?_)); (try simp only [go_sem, seval, reduceCtorEq, lv6ZnQ, Try.ntmps6, Try.results6, alsS]))
      | fail)
end Go.Proofs.Ytacfipmigkbncaa
