/- Two zones: New, Totals, Total, Which, Is; the kit's OwnZones, SameZones; by the engine. -/
import Derived.Test.YtacfipmigkbncaaZnA
import Derived.Test.YtacfipmigkbncaaBdAD
import Derived.Test.YtacfipmigkbncaaBdAH
namespace Go.Proofs.Ytacfipmigkbncaa
open Go.RowKit
set_option maxRecDepth 100000
set_option linter.unusedSimpArgs false
set_option linter.unusedVariables false

abbrev lv24ZnB : List (Nat × List Nat) := [(0, [1, 2]), (1, [1, 2, 6]), (2, [1, 2, 6, 10]), (3, [4, 5]), (4, [4, 5])]
abbrev lv25ZnB : List (Nat × List Nat) := [(0, [1, 2]), (1, [1, 2, 6]), (2, [1, 2, 6, 10]), (3, [4, 5]), (4, [1, 2, 19]), (5, [4, 5]), (6, [23]), (7, [4, 5]), (8, [4, 5])]
abbrev Zn := Nat × List Bl
def toZ (z : Zn) : Zo := ((z.1 : Int), z.2.map toI)
abbrev zzn (low : Int) (a b : Zn) : AV := .agg [iv low, .d (.sl [[.int .i64 (a.1 : Int), .sl (a.2.map encN)], [.int .i64 (b.1 : Int), .sl (b.2.map encN)]])]
theorem zz2_toZ (low : Int) (a b : Zn) : zz2 low (toZ a) (toZ b) = zzn low a b := by
  unfold zz2 zzn toZ; rw [toI_enc, toI_enc]
/-- valid zones -/
structure Vzz (a b : Zn) : Prop where
  fa : Vz a.1 a.2
  fb : Vz b.1 b.2
  pos : 1 ≤ a.1
  le : a.1 + b.1 ≤ 256
theorem vzz_of {low : Int} {zs : List Zo} (h : zzchk low zs = 0) : ∃ a b : Zn, low = a.1 ∧ zs = [toZ a, toZ b] ∧ Vzz a b := by
  match zs, h with
  | [], h => cases h
  | [_], h => cases h
  | _ :: _ :: _ :: _, h => cases h
  | [x, y], h =>
    simp only [zzchk] at h
    split at h
    · cases h
    · split at h
      · rename_i h1; exact absurd h h1
      · split at h
        · rename_i h1; exact absurd h h1
        · split at h
          · cases h
          · rename_i h1 h2 h3 h4
            obtain ⟨N, m, e1, e2, hv⟩ := vz_of (show (zchk x.1 x.2).1 = 0 by simpa using h2)
            obtain ⟨M, m', e3, e4, hw⟩ := vz_of (show (zchk y.1 y.2).1 = 0 by simpa using h3)
            refine ⟨(N, m), (M, m'), by dsimp only; omega, ?_, hv, hw, by dsimp only; omega, by dsimp only; omega⟩
            unfold toZ; dsimp only; rw [← e1, ← e2, ← e3, ← e4]
theorem zzchk_v {a b : Zn} (h : Vzz a b) : zzchk a.1 [toZ a, toZ b] = 0 := by
  have := h.pos; have := h.le
  have e1 := h.fa.c1
  have e2 := h.fb.c1
  show (if (a.1 : Int) < 1 ∨ (a.1 : Int) ≠ a.1 then 2 else if (zchk (a.1 : Int) (a.2.map toI)).1 ≠ 0 then (zchk (a.1 : Int) (a.2.map toI)).1 else if (zchk (b.1 : Int) (b.2.map toI)).1 ≠ 0 then (zchk (b.1 : Int) (b.2.map toI)).1 else if 256 < (a.1 : Int) + (b.1 : Int) then 2 else 0) = (0 : Int)
  rw [e1, e2]
  simp; omega
theorem Vzz.la {a b : Zn} (h : Vzz a b) : (toZ a).2.length ≤ 1000000 := by have := h.fa.v.len; simp [toZ]; omega
theorem Vzz.lb {a b : Zn} (h : Vzz a b) : (toZ b).2.length ≤ 1000000 := by have := h.fb.v.len; simp [toZ]; omega
theorem Vzz.ra {a b : Zn} (h : Vzz a b) : (0 : Int) ≤ (toZ a).1 ∧ (toZ a).1 ≤ 256 := by have := h.le; simp [toZ]; omega
theorem Vzz.rb {a b : Zn} (h : Vzz a b) : (0 : Int) ≤ (toZ b).1 ∧ (toZ b).1 ≤ 256 := by have := h.le; simp [toZ]; omega
abbrev CkvS : Spec := CkzS
abbrev rCkvS : Spec := CkzS
theorem Ckv_ok : Ok Try.prog 22 CkvS := Ckz_ok
theorem rCkv_ok : Ok Try.prog 23 rCkvS := rCkz_ok
theorem Ckv_at {a b : Zn} (h : Vzz a b) : CkvS.rel [zzn a.1 a b] [] (iv 0) [] := by
  have := Ckz2_at a.1 (toZ a) (toZ b) h.la h.lb
  rwa [zz2_toZ, zzchk_v h] at this
theorem rCkv_at {a b : Zn} (h : Vzz a b) : rCkvS.rel [zzn a.1 a b] [] (iv 0) [] := Ckv_at h
abbrev framevS : Spec := framesS
abbrev rframevS : Spec := framesS
theorem framev_ok : Ok Try.prog 51 framevS := frames_ok
theorem rframev_ok : Ok Try.prog 55 rframevS := rframe_ok
theorem framev_at {a b : Zn} (h : Vzz a b) : framevS.rel [zzn a.1 a b] [] (iv (((a.1 + b.1 : Nat) : Int))) [] := by
  have := frames_at a.1 (toZ a) (toZ b) h.ra h.rb
  rwa [zz2_toZ, show (toZ a).1 + (toZ b).1 = ((a.1 + b.1 : Nat) : Int) by simp [toZ]] at this
theorem rframev_at {a b : Zn} (h : Vzz a b) : rframevS.rel [zzn a.1 a b] [] (iv (((a.1 + b.1 : Nat) : Int))) [] := framev_at h
abbrev basevS : Spec := baseS
theorem basev_ok : Ok Try.prog 58 basevS := base_ok
theorem basev_at {a b : Zn} (h : Vzz a b) (k : Int) (hk : k = 0 ∨ k = 1) : basevS.rel [zzn a.1 a b, iv k] [] (iv (k * a.1)) [] := by
  have := base_at a.1 (toZ a) (toZ b) k h.ra hk
  rwa [zz2_toZ] at this
abbrev zoneOvS : Spec := zoneOfS
theorem zoneOv_ok : Ok Try.prog 54 zoneOvS := zoneOf_ok
theorem zoneOv_at {a b : Zn} (h : Vzz a b) (w s : Int) (hs : 0 ≤ s ∧ s ≤ 64) : zoneOvS.rel [zzn a.1 a b, iv w, iv s] [] (.tup [iv (zof a.1 ((a.1 + b.1 : Nat) : Int) w s).1, iv (zof a.1 ((a.1 + b.1 : Nat) : Int) w s).2]) [] := by
  have := zoneOf_at a.1 (toZ a) (toZ b) w s h.ra h.ra h.rb hs
  rwa [zz2_toZ, show (toZ a).1 + (toZ b).1 = ((a.1 + b.1 : Nat) : Int) by simp [toZ]] at this

/-- where a frame is -/
def whiE (low : Int) (zs : List Zo) (f : Int) : Int × Int := if zzchk low zs ≠ 0 then (0, zzchk low zs) else zof low (frmz zs) f 1
def WhiS : Spec := { rel := fun args ins res outs => ∃ (low : Int) (zs : List Zo) (f : Int), zs.length ≤ 1000000 ∧ (∀ z ∈ zs, z.2.length ≤ 1000000) ∧ args = [zzv low zs, iv f] ∧ ins = [] ∧ res = .tup [iv (whiE low zs f).1, iv (whiE low zs f).2] ∧ outs = [] }
theorem Whi_at (low : Int) (zs : List Zo) (f : Int) (h : zs.length ≤ 1000000) (h2 : ∀ z ∈ zs, z.2.length ≤ 1000000) : WhiS.rel [zzv low zs, iv f] [] (.tup [iv (whiE low zs f).1, iv (whiE low zs f).2]) [] := ⟨low, zs, f, h, h2, rfl, rfl, rfl, rfl⟩
theorem zof_two (low fr w s : Int) : (zof low fr w s).2 = 0 ∧ ((zof low fr w s).1 = 0 ∨ (zof low fr w s).1 = 1) ∨ (zof low fr w s).2 = 2 ∧ (zof low fr w s).1 = 0 := by
  unfold zof; split
  · exact .inl ⟨rfl, .inl rfl⟩
  · split
    · exact .inl ⟨rfl, .inr rfl⟩
    · exact .inr ⟨rfl, rfl⟩
set_option maxHeartbeats 2000000 in
theorem Whi_ok : Ok Try.prog 24 WhiS := by
  refine fn_ok WhiS Try.func24 rfl rfl ?_
  rintro args ins res outs ⟨low, zs, f, hl, hz, rfl, rfl, rfl, rfl⟩
  refine ⟨by simp [Try.ntmps24], fun w0 V Bo mu0 => ?_⟩
  by_cases hc : zzchk low zs = 0
  · obtain ⟨a, b, rfl, rfl, hv⟩ := vzz_of hc
    simp only [whiE, hc, ne_eq, not_true_eq_false, if_false, frmz]
    rw [zz2_eq, zz2_toZ, show (toZ a).1 + (toZ b).1 = ((a.1 + b.1 : Nat) : Int) by simp [toZ]]
    have ht := zof_two a.1 ((a.1 + b.1 : Nat) : Int) f 1
    have hr : resIS.rel [iv (zof a.1 ((a.1 + b.1 : Nat) : Int) f 1).1, iv (zof a.1 ((a.1 + b.1 : Nat) : Int) f 1).2] [] (.tup [iv (zof a.1 ((a.1 + b.1 : Nat) : Int) f 1).1, iv (zof a.1 ((a.1 + b.1 : Nat) : Int) f 1).2]) [] := by
      have := resI_at (zof a.1 ((a.1 + b.1 : Nat) : Int) f 1).1 (zof a.1 ((a.1 + b.1 : Nat) : Int) f 1).2
      rcases ht with ⟨h1, _⟩ | ⟨h1, h2⟩
      · rwa [if_pos h1] at this
      · rwa [if_neg (by omega), ← h2] at this
    have zoneOv_at := zoneOv_at hv f 1 (by omega)
    generalize zof a.1 ((a.1 + b.1 : Nat) : Int) f 1 = r at *
    have resI_at := hr
    repeat' (first
      | (with_reducible first | refine W_seq ?_ | refine W_condT rfl ?_ | refine W_condF rfl ?_ | refine W_tf rfl (fun h => ?_) (fun h => ?_) | refine endQ_ret ?_ | refine endQ_normal ?_)
      | ((with_reducible first | refine hK _ ?_ | refine hK _ _ ?_); clear hK K)
      | ((first | (with_reducible first | refine ops_cons (fun K hK => ?_) | refine ops_nil ?_) | with_reducible refine callV_snap ?_ | ((with_reducible refine call_go CkvS Ckv_ok ?_); refine ⟨(by first | exact alOk_nil _ | exact alOk_f rfl), _, _, Ckv_at hv, ?_⟩) | ((with_reducible refine call_go zoneOvS zoneOv_ok ?_); refine ⟨(by first | exact alOk_nil _ | exact alOk_f rfl), _, _, zoneOv_at , ?_⟩) | ((with_reducible refine call_go resIS resI_ok ?_); refine ⟨(by first | exact alOk_nil _ | exact alOk_f rfl), _, _, resI_at , ?_⟩) | (with_reducible first | refine W_reg lv24ZnB ?_ | refine W_skip ?_ | refine W_ret ?_ | refine end_at0 ?_) | (with_reducible refine And.intro (fun h => ?_) (fun h => ?_)) | (with_reducible refine And.intro (by omega) ?_)); (try simp only [go_sem, seval, reduceCtorEq, lv24ZnB, Try.ntmps24, Try.results24, WhiS]))
      | fail)
  · simp only [whiE, ne_eq, hc, not_false_eq_true, if_true]
    repeat' (first
      | (with_reducible first | refine W_seq ?_ | refine W_condT rfl ?_ | refine W_condF rfl ?_ | refine W_tf rfl (fun h => ?_) (fun h => ?_) | refine endQ_ret ?_ | refine endQ_normal ?_)
      | ((with_reducible first | refine hK _ ?_ | refine hK _ _ ?_); clear hK K)
      | ((first | (with_reducible first | refine ops_cons (fun K hK => ?_) | refine ops_nil ?_) | with_reducible refine callV_snap ?_ | ((with_reducible refine call_go CkzS Ckz_ok ?_); refine ⟨(by first | exact alOk_nil _ | exact alOk_f rfl), _, _, Ckz_at low zs hl hz, ?_⟩) | (with_reducible first | refine W_reg lv24ZnB ?_ | refine W_skip ?_ | refine W_ret ?_ | refine end_at0 ?_) | (with_reducible refine And.intro (fun h => ?_) (fun h => ?_)) | (with_reducible refine And.intro (by omega) ?_)); (try simp only [go_sem, seval, reduceCtorEq, hc, lv24ZnB, Try.ntmps24, Try.results24, WhiS]))
      | fail)
set_option maxHeartbeats 2000000 in
theorem rWhi_ok : Ok Try.prog 25 WhiS := by
  refine fn_ok WhiS Try.func25 rfl rfl ?_
  rintro args ins res outs ⟨low, zs, f, hl, hz, rfl, rfl, rfl, rfl⟩
  refine ⟨by simp [Try.ntmps25], fun w0 V Bo mu0 => ?_⟩
  by_cases hc : zzchk low zs = 0
  · obtain ⟨a, b, rfl, rfl, hv⟩ := vzz_of hc
    simp only [whiE, hc, ne_eq, not_true_eq_false, if_false, frmz]
    rw [zz2_eq, zz2_toZ, show (toZ a).1 + (toZ b).1 = ((a.1 + b.1 : Nat) : Int) by simp [toZ]]
    unfold zof
    by_cases c0 : f < 0
    · rw [if_neg (by omega), if_neg (by omega)]
      repeat' (first
        | (with_reducible first | refine W_seq ?_ | refine W_condT rfl ?_ | refine W_condF rfl ?_ | refine W_tf rfl (fun h => ?_) (fun h => ?_) | refine endQ_ret ?_ | refine endQ_normal ?_)
        | ((with_reducible first | refine hK _ ?_ | refine hK _ _ ?_); clear hK K)
        | ((first | (with_reducible first | refine ops_cons (fun K hK => ?_) | refine ops_nil ?_) | with_reducible refine callV_snap ?_ | ((with_reducible refine call_go rCkvS rCkv_ok ?_); refine ⟨(by first | exact alOk_nil _ | exact alOk_f rfl), _, _, rCkv_at hv, ?_⟩) | ((with_reducible refine call_go rframevS rframev_ok ?_); refine ⟨(by first | exact alOk_nil _ | exact alOk_f rfl), _, _, rframev_at hv, ?_⟩) | (with_reducible first | refine W_reg lv25ZnB ?_ | refine W_skip ?_ | refine W_ret ?_ | refine end_at0 ?_) | (with_reducible refine And.intro (fun h => ?_) (fun h => ?_)) | (with_reducible refine And.intro (by omega) ?_)); (try simp only [go_sem, seval, reduceCtorEq, c0, lv25ZnB, Try.ntmps25, Try.results25, WhiS]))
        | fail)
    · by_cases c1 : ((a.1 + b.1 : Nat) : Int) ≤ f
      · rw [if_neg (by omega), if_neg (by omega)]
        repeat' (first
          | (with_reducible first | refine W_seq ?_ | refine W_condT rfl ?_ | refine W_condF rfl ?_ | refine W_tf rfl (fun h => ?_) (fun h => ?_) | refine endQ_ret ?_ | refine endQ_normal ?_)
          | ((with_reducible first | refine hK _ ?_ | refine hK _ _ ?_); clear hK K)
          | ((first | (with_reducible first | refine ops_cons (fun K hK => ?_) | refine ops_nil ?_) | with_reducible refine callV_snap ?_ | ((with_reducible refine call_go rCkvS rCkv_ok ?_); refine ⟨(by first | exact alOk_nil _ | exact alOk_f rfl), _, _, rCkv_at hv, ?_⟩) | ((with_reducible refine call_go rframevS rframev_ok ?_); refine ⟨(by first | exact alOk_nil _ | exact alOk_f rfl), _, _, rframev_at hv, ?_⟩) | (with_reducible first | refine W_reg lv25ZnB ?_ | refine W_skip ?_ | refine W_ret ?_ | refine end_at0 ?_) | (with_reducible refine And.intro (fun h => ?_) (fun h => ?_)) | (with_reducible refine And.intro (by omega) ?_)); (try simp only [go_sem, seval, reduceCtorEq, c0, c1, lv25ZnB, Try.ntmps25, Try.results25, WhiS]))
          | fail)
      · by_cases c2 : (a.1 : Int) ≤ f
        · rw [if_neg (by omega), if_pos (by omega)]
          repeat' (first
            | (with_reducible first | refine W_seq ?_ | refine W_condT rfl ?_ | refine W_condF rfl ?_ | refine W_tf rfl (fun h => ?_) (fun h => ?_) | refine endQ_ret ?_ | refine endQ_normal ?_)
            | ((with_reducible first | refine hK _ ?_ | refine hK _ _ ?_); clear hK K)
            | ((first | (with_reducible first | refine ops_cons (fun K hK => ?_) | refine ops_nil ?_) | with_reducible refine callV_snap ?_ | ((with_reducible refine call_go rCkvS rCkv_ok ?_); refine ⟨(by first | exact alOk_nil _ | exact alOk_f rfl), _, _, rCkv_at hv, ?_⟩) | ((with_reducible refine call_go rframevS rframev_ok ?_); refine ⟨(by first | exact alOk_nil _ | exact alOk_f rfl), _, _, rframev_at hv, ?_⟩) | (with_reducible first | refine W_reg lv25ZnB ?_ | refine W_skip ?_ | refine W_ret ?_ | refine end_at0 ?_) | (with_reducible refine And.intro (fun h => ?_) (fun h => ?_)) | (with_reducible refine And.intro (by omega) ?_)); (try simp only [go_sem, seval, reduceCtorEq, c0, c1, c2, lv25ZnB, Try.ntmps25, Try.results25, WhiS]))
            | fail)
        · rw [if_pos (by omega)]
          repeat' (first
            | (with_reducible first | refine W_seq ?_ | refine W_condT rfl ?_ | refine W_condF rfl ?_ | refine W_tf rfl (fun h => ?_) (fun h => ?_) | refine endQ_ret ?_ | refine endQ_normal ?_)
            | ((with_reducible first | refine hK _ ?_ | refine hK _ _ ?_); clear hK K)
            | ((first | (with_reducible first | refine ops_cons (fun K hK => ?_) | refine ops_nil ?_) | with_reducible refine callV_snap ?_ | ((with_reducible refine call_go rCkvS rCkv_ok ?_); refine ⟨(by first | exact alOk_nil _ | exact alOk_f rfl), _, _, rCkv_at hv, ?_⟩) | ((with_reducible refine call_go rframevS rframev_ok ?_); refine ⟨(by first | exact alOk_nil _ | exact alOk_f rfl), _, _, rframev_at hv, ?_⟩) | (with_reducible first | refine W_reg lv25ZnB ?_ | refine W_skip ?_ | refine W_ret ?_ | refine end_at0 ?_) | (with_reducible refine And.intro (fun h => ?_) (fun h => ?_)) | (with_reducible refine And.intro (by omega) ?_)); (try simp only [go_sem, seval, reduceCtorEq, c0, c1, c2, lv25ZnB, Try.ntmps25, Try.results25, WhiS]))
            | fail)
  · simp only [whiE, ne_eq, hc, not_false_eq_true, if_true]
    repeat' (first
      | (with_reducible first | refine W_seq ?_ | refine W_condT rfl ?_ | refine W_condF rfl ?_ | refine W_tf rfl (fun h => ?_) (fun h => ?_) | refine endQ_ret ?_ | refine endQ_normal ?_)
      | ((with_reducible first | refine hK _ ?_ | refine hK _ _ ?_); clear hK K)
      | ((first | (with_reducible first | refine ops_cons (fun K hK => ?_) | refine ops_nil ?_) | with_reducible refine callV_snap ?_ | ((with_reducible refine call_go rCkzS rCkz_ok ?_); refine ⟨(by first | exact alOk_nil _ | exact alOk_f rfl), _, _, rCkz_at low zs hl hz, ?_⟩) | (with_reducible first | refine W_reg lv25ZnB ?_ | refine W_skip ?_ | refine W_ret ?_ | refine end_at0 ?_) | (with_reducible refine And.intro (fun h => ?_) (fun h => ?_)) | (with_reducible refine And.intro (by omega) ?_)); (try simp only [go_sem, seval, reduceCtorEq, hc, lv25ZnB, Try.ntmps25, Try.results25, WhiS]))
      | fail)
end Go.Proofs.Ytacfipmigkbncaa
