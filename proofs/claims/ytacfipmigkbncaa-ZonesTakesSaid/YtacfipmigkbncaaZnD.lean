/- Two zones: Alloc, Is, Totals, Total, New; by the engine. -/
import Derived.Test.YtacfipmigkbncaaZnC
namespace Go.Proofs.Ytacfipmigkbncaa
open Go.RowKit
set_option maxRecDepth 100000
set_option linter.unusedSimpArgs false
set_option linter.unusedVariables false

abbrev lv14ZnD : List (Nat × List Nat) := [(0, [1, 2, 3, 6]), (1, [1, 2, 3, 6, 9]), (2, [1, 2, 3, 6, 9, 15]), (3, [6, 7, 8]), (4, [1, 2, 3, 6, 11]), (5, [1, 2, 3, 6, 29]), (6, [6, 7, 8]), (7, [6, 7, 8])]
abbrev lv26ZnD : List (Nat × List Nat) := [(0, [1, 2]), (1, [1, 2, 6, 7]), (2, [1, 2, 6, 7, 15]), (3, [4, 5]), (4, [4, 5])]
abbrev lv27ZnD : List (Nat × List Nat) := [(0, [1, 2]), (1, [1, 2, 6, 7]), (2, [1, 2, 6, 7, 15]), (3, [4, 5]), (4, [4, 5])]
abbrev lv30ZnD : List (Nat × List Nat) := [(0, [1]), (1, [1, 4]), (2, [1, 4, 13]), (3, [2, 3]), (4, [1, 5]), (5, [5, 16, 17, 18]), (6, [5, 16, 17, 18, 19]), (7, [5, 7, 16, 17, 18]), (8, [5, 8, 9, 16, 17, 18]), (9, [5, 8, 9, 16, 17, 18, 28]), (10, [2, 3]), (11, [5, 16, 17, 18]), (12, [5, 16, 17, 18]), (13, [2, 3])]
abbrev lv31ZnD : List (Nat × List Nat) := [(0, [1]), (1, [1, 4]), (2, [1, 4, 12]), (3, [2, 3]), (4, [1, 5]), (5, [5, 7]), (6, [2, 3])]
abbrev alocFS : Spec := frzS alocS
theorem alocF_ok : Ok Try.prog 41 alocFS := frzS_ok aloc_ok
/-- what Alloc answers at valid zones, as data -/
def alcF (low : Int) : Option (Zn × Zn × Nat) → AV
  | none => .tup [.agg [iv 0, .d (.sl [])], iv 0, iv 5]
  | some r => .tup [zzn low r.1 r.2.1, iv r.2.2, iv 0]
theorem alc_frz (low : Int) (r : Option (Zn × Zn × Nat)) : frz [] (alcR low r) = some (alcF low r) := by
  cases r <;> simp [alcR, alcF, frz, frzA, frzAL, frzL, frz1]
theorem alocF_at {a b : Zn} {q : Nat} {p : Int} (hv : Vzz a b) (hq : q ≤ 6) (hp : p = 0 ∨ p = 1) : alocFS.rel [zzn a.1 a b, iv q, iv p] [] (alcF a.1 (alcZ a b q p)) [] := ⟨rfl, rfl, _, _, ⟨a, b, q, p, hv, hq, hp, rfl, rfl, rfl, rfl⟩, alc_frz _ _⟩
def alcE (low : Int) (zs : List Zo) (o p : Int) : Int := if zzchk low zs ≠ 0 then zzchk low zs else if (o < 0 ∨ 6 < o) ∨ ¬ (p = 0 ∨ p = 1) then 2 else 0
def zAllS : Spec := { al := true, rel := fun args ins res outs => (∃ (low : Int) (zs : List Zo) (o p : Int), zs.length ≤ 1000000 ∧ (∀ z ∈ zs, z.2.length ≤ 1000000) ∧ alcE low zs o p ≠ 0 ∧ args = [zzv low zs, iv o, iv p] ∧ ins = [] ∧ res = .tup [.agg [iv 0, .nil], iv 0, iv (alcE low zs o p)] ∧ outs = []) ∨
  ∃ (a b : Zn) (q : Nat) (p : Int), Vzz a b ∧ q ≤ 6 ∧ (p = 0 ∨ p = 1) ∧ args = [zzn a.1 a b, iv q, iv p] ∧ ins = [] ∧ res = alcF a.1 (alcZ a b q p) ∧ outs = [] }
set_option maxHeartbeats 2000000 in
theorem zAll_ok : Ok Try.prog 14 zAllS := by
  refine fn_ok zAllS Try.func14 rfl rfl ?_
  rintro args ins res outs (⟨low, zs, o, p, hl, hz, he, rfl, rfl, rfl, rfl⟩ | ⟨a, b, q, p, hv, hq, hp, rfl, rfl, rfl, rfl⟩)
  all_goals refine ⟨by simp [Try.ntmps14], fun w0 V Bo mu0 => ?_⟩
  · unfold alcE at he ⊢
    by_cases hc : zzchk low zs = 0
    · obtain ⟨a, b, rfl, rfl, hv⟩ := vzz_of hc
      rw [if_neg (by simpa using hc)] at he ⊢
      rw [zz2_eq, zz2_toZ]
      by_cases h1 : o < 0 ∨ 6 < o
      · have hs := sizeOf_at o
        simp only [if_pos h1] at hs
        rw [if_pos (.inl h1)]
        have sizeOf_at : sizeOfS.rel [iv o] [] (.tup [iv 0, iv 2]) [] := hs
        repeat' (first
          | (with_reducible first | refine W_seq ?_ | refine W_condT rfl ?_ | refine W_condF rfl ?_ | refine W_tf rfl (fun h => ?_) (fun h => ?_) | refine endQ_ret ?_ | refine endQ_normal ?_)
          | ((with_reducible first | refine hK _ ?_ | refine hK _ _ ?_); clear hK K)
          | ((first | (with_reducible first | refine ops_cons (fun K hK => ?_) | refine ops_nil ?_) | with_reducible refine callV_snap ?_ | ((with_reducible refine call_go CkvS Ckv_ok ?_); refine ⟨(by first | exact alOk_nil _ | exact alOk_f rfl), _, _, Ckv_at hv, ?_⟩) | ((with_reducible refine call_go sizeOfS sizeOf_ok ?_); refine ⟨(by first | exact alOk_nil _ | exact alOk_f rfl), _, _, sizeOf_at , ?_⟩) | (with_reducible first | refine W_reg lv14ZnD ?_ | refine W_skip ?_ | refine W_ret ?_ | refine end_at0 ?_) | (with_reducible refine And.intro (fun h => ?_) (fun h => ?_)) | (with_reducible refine And.intro (by omega) ?_)); (try simp only [go_sem, seval, reduceCtorEq, lv14ZnD, Try.ntmps14, Try.results14, zAllS]))
          | fail)
      · by_cases h2 : p = 0 ∨ p = 1
        · rw [if_neg (by rintro (h | h); exact h1 h; exact h h2)] at he; exact absurd rfl he
        · have hs := sizeOf_at o
          simp only [if_neg h1] at hs
          rw [if_pos (.inr h2)]
          have hch := choice_at p
          rw [decide_eq_false h2] at hch
          have sizeOf_at : sizeOfS.rel [iv o] [] (.tup [iv (2 ^ o.toNat), iv 0]) [] := hs
          have choice_at : choiceS.rel [iv p] [] (bv false) [] := hch
          repeat' (first
            | (with_reducible first | refine W_seq ?_ | refine W_condT rfl ?_ | refine W_condF rfl ?_ | refine W_tf rfl (fun h => ?_) (fun h => ?_) | refine endQ_ret ?_ | refine endQ_normal ?_)
            | ((with_reducible first | refine hK _ ?_ | refine hK _ _ ?_); clear hK K)
            | ((first | (with_reducible first | refine ops_cons (fun K hK => ?_) | refine ops_nil ?_) | with_reducible refine callV_snap ?_ | ((with_reducible refine call_go CkvS Ckv_ok ?_); refine ⟨(by first | exact alOk_nil _ | exact alOk_f rfl), _, _, Ckv_at hv, ?_⟩) | ((with_reducible refine call_go sizeOfS sizeOf_ok ?_); refine ⟨(by first | exact alOk_nil _ | exact alOk_f rfl), _, _, sizeOf_at , ?_⟩) | ((with_reducible refine call_go choiceS choice_ok ?_); refine ⟨(by first | exact alOk_nil _ | exact alOk_f rfl), _, _, choice_at , ?_⟩) | (with_reducible first | refine W_reg lv14ZnD ?_ | refine W_skip ?_ | refine W_ret ?_ | refine end_at0 ?_) | (with_reducible refine And.intro (fun h => ?_) (fun h => ?_)) | (with_reducible refine And.intro (by omega) ?_)); (try simp only [go_sem, seval, reduceCtorEq, lv14ZnD, Try.ntmps14, Try.results14, zAllS]))
            | fail)
    · rw [if_pos hc] at he ⊢
      repeat' (first
        | (with_reducible first | refine W_seq ?_ | refine W_condT rfl ?_ | refine W_condF rfl ?_ | refine W_tf rfl (fun h => ?_) (fun h => ?_) | refine endQ_ret ?_ | refine endQ_normal ?_)
        | ((with_reducible first | refine hK _ ?_ | refine hK _ _ ?_); clear hK K)
        | ((first | (with_reducible first | refine ops_cons (fun K hK => ?_) | refine ops_nil ?_) | with_reducible refine callV_snap ?_ | ((with_reducible refine call_go CkzS Ckz_ok ?_); refine ⟨(by first | exact alOk_nil _ | exact alOk_f rfl), _, _, Ckz_at low zs hl hz, ?_⟩) | (with_reducible first | refine W_reg lv14ZnD ?_ | refine W_skip ?_ | refine W_ret ?_ | refine end_at0 ?_) | (with_reducible refine And.intro (fun h => ?_) (fun h => ?_)) | (with_reducible refine And.intro (by omega) ?_)); (try simp only [go_sem, seval, reduceCtorEq, hc, lv14ZnD, Try.ntmps14, Try.results14, zAllS]))
        | fail)
  · have hs := sizeOf_at q
    simp only [if_neg (show ¬ ((q : Int) < 0 ∨ 6 < (q : Int)) by omega)] at hs
    have hch := choice_at p
    rw [decide_eq_true hp] at hch
    have sizeOf_at : sizeOfS.rel [iv q] [] (.tup [iv (2 ^ ((q : Int)).toNat), iv 0]) [] := hs
    have choice_at : choiceS.rel [iv p] [] (bv true) [] := hch
    have hal := alocF_at hv hq hp
    cases h : alcZ a b q p with
    | none =>
      rw [h] at hal
      have alocF_at : alocFS.rel [zzn a.1 a b, iv q, iv p] [] (.tup [.agg [iv 0, .d (.sl [])], iv 0, iv 5]) [] := hal
      simp only [alcF]
      repeat' (first
        | (with_reducible first | refine W_seq ?_ | refine W_condT rfl ?_ | refine W_condF rfl ?_ | refine W_tf rfl (fun h => ?_) (fun h => ?_) | refine endQ_ret ?_ | refine endQ_normal ?_)
        | ((with_reducible first | refine hK _ ?_ | refine hK _ _ ?_); clear hK K)
        | ((first | (with_reducible first | refine ops_cons (fun K hK => ?_) | refine ops_nil ?_) | with_reducible refine callV_snap ?_ | ((with_reducible refine call_go CkvS Ckv_ok ?_); refine ⟨(by first | exact alOk_nil _ | exact alOk_f rfl), _, _, Ckv_at hv, ?_⟩) | ((with_reducible refine call_go sizeOfS sizeOf_ok ?_); refine ⟨(by first | exact alOk_nil _ | exact alOk_f rfl), _, _, sizeOf_at , ?_⟩) | ((with_reducible refine call_go choiceS choice_ok ?_); refine ⟨(by first | exact alOk_nil _ | exact alOk_f rfl), _, _, choice_at , ?_⟩) | ((with_reducible refine call_go alocFS alocF_ok ?_); refine ⟨(by first | exact alOk_nil _ | exact alOk_f rfl), _, _, alocF_at , ?_⟩) | (with_reducible first | refine W_reg lv14ZnD ?_ | refine W_skip ?_ | refine W_ret ?_ | refine end_at0 ?_) | (with_reducible refine And.intro (fun h => ?_) (fun h => ?_)) | (with_reducible refine And.intro (by omega) ?_)); (try simp only [go_sem, seval, reduceCtorEq, lv14ZnD, Try.ntmps14, Try.results14, zAllS]))
        | fail)
    | some r =>
      rw [h] at hal
      have alocF_at : alocFS.rel [zzn a.1 a b, iv q, iv p] [] (.tup [zzn a.1 r.1 r.2.1, iv r.2.2, iv 0]) [] := hal
      simp only [alcF]
      repeat' (first
        | (with_reducible first | refine W_seq ?_ | refine W_condT rfl ?_ | refine W_condF rfl ?_ | refine W_tf rfl (fun h => ?_) (fun h => ?_) | refine endQ_ret ?_ | refine endQ_normal ?_)
        | ((with_reducible first | refine hK _ ?_ | refine hK _ _ ?_); clear hK K)
        | ((first | (with_reducible first | refine ops_cons (fun K hK => ?_) | refine ops_nil ?_) | with_reducible refine callV_snap ?_ | ((with_reducible refine call_go CkvS Ckv_ok ?_); refine ⟨(by first | exact alOk_nil _ | exact alOk_f rfl), _, _, Ckv_at hv, ?_⟩) | ((with_reducible refine call_go sizeOfS sizeOf_ok ?_); refine ⟨(by first | exact alOk_nil _ | exact alOk_f rfl), _, _, sizeOf_at , ?_⟩) | ((with_reducible refine call_go choiceS choice_ok ?_); refine ⟨(by first | exact alOk_nil _ | exact alOk_f rfl), _, _, choice_at , ?_⟩) | ((with_reducible refine call_go alocFS alocF_ok ?_); refine ⟨(by first | exact alOk_nil _ | exact alOk_f rfl), _, _, alocF_at , ?_⟩) | (with_reducible first | refine W_reg lv14ZnD ?_ | refine W_skip ?_ | refine W_ret ?_ | refine end_at0 ?_) | (with_reducible refine And.intro (fun h => ?_) (fun h => ?_)) | (with_reducible refine And.intro (by omega) ?_)); (try simp only [go_sem, seval, reduceCtorEq, lv14ZnD, Try.ntmps14, Try.results14, zAllS]))
        | fail)

abbrev rWhiS : Spec := WhiS
abbrev rTotS : Spec := TotS
def frZ (a b : Zn) (f : Nat) : Bool := if f < a.1 then frM a.2 f else frM b.2 (f - a.1)
abbrev isZS : Spec := { rel := fun args ins res outs => (∃ (low : Int) (zs : List Zo) (f : Int), zs.length ≤ 1000000 ∧ (∀ z ∈ zs, z.2.length ≤ 1000000) ∧ (whiE low zs f).2 ≠ 0 ∧ args = [zzv low zs, iv f] ∧ ins = [] ∧ res = .tup [bv false, iv (whiE low zs f).2] ∧ outs = []) ∨
  ∃ (a b : Zn) (f : Nat), Vzz a b ∧ f < a.1 + b.1 ∧ args = [zzn a.1 a b, iv f] ∧ ins = [] ∧ res = .tup [bv (frZ a b f), iv 0] ∧ outs = [] }
abbrev risZS : Spec := isZS
theorem whi_v {a b : Zn} (hv : Vzz a b) {f : Nat} (hf : f < a.1 + b.1) : whiE a.1 [toZ a, toZ b] f = (if f < a.1 then 0 else 1, 0) := by
  unfold whiE
  rw [if_neg (by simpa using zzchk_v hv)]
  simp only [frmz, toZ]
  unfold zof
  by_cases h : f < a.1
  · rw [if_pos (by omega), if_pos h]
  · rw [if_neg (by omega), if_pos (by omega), if_neg h]
theorem whiv_at {a b : Zn} (hv : Vzz a b) {f : Nat} (hf : f < a.1 + b.1) : WhiS.rel [zzn a.1 a b, iv f] [] (.tup [iv (if f < a.1 then 0 else 1), iv 0]) [] := by
  have := Whi_at a.1 [toZ a, toZ b] f (by simp) (by simp [hv.la, hv.lb])
  rwa [whi_v hv hf, zz2_eq, zz2_toZ] at this
set_option maxHeartbeats 2000000 in
theorem isZ_ok : Ok Try.prog 26 isZS := by
  refine fn_ok isZS Try.func26 rfl rfl ?_
  rintro args ins res outs (⟨low, zs, f, hl, hz, he, rfl, rfl, rfl, rfl⟩ | ⟨a, b, f, hv, hf, rfl, rfl, rfl, rfl⟩)
  all_goals refine ⟨by simp [Try.ntmps26], fun w0 V Bo mu0 => ?_⟩
  · have W0 := Whi_at low zs f hl hz
    generalize whiE low zs f = r at *
    have Whi_at : WhiS.rel [zzv low zs, iv f] [] (.tup [iv r.1, iv r.2]) [] := W0
    repeat' (first
      | (with_reducible first | refine W_seq ?_ | refine W_condT rfl ?_ | refine W_condF rfl ?_ | refine W_tf rfl (fun h => ?_) (fun h => ?_) | refine endQ_ret ?_ | refine endQ_normal ?_)
      | ((with_reducible first | refine hK _ ?_ | refine hK _ _ ?_); clear hK K)
      | ((first | (with_reducible first | refine ops_cons (fun K hK => ?_) | refine opsd_cons (fun K hK => ?_) | refine ops_nil ?_ | refine fit_i64 (by omega) ?_ | refine fit_any ?_) | ((with_reducible refine opsd_nil ?_); refine And.intro (by kernel_rfl) ?_) | with_reducible refine callV_snap ?_ | ((with_reducible refine call_go WhiS Whi_ok ?_); refine ⟨(by first | exact alOk_nil _ | exact alOk_f rfl), _, _, Whi_at , ?_⟩) | (with_reducible first | refine idx_map (by omega) ?_ | refine W_reg lv26ZnD ?_ | refine W_drw lv26ZnD (by kernel_rfl) ?_ | refine W_skip ?_ | refine W_ret ?_ | refine end_at0 ?_) | (with_reducible refine And.intro (fun h => ?_) (fun h => ?_)) | (with_reducible refine And.intro (by omega) ?_)); (try simp only [go_sem, seval, reduceCtorEq, he, lv26ZnD, Try.ntmps26, Try.results26, isZS]))
      | fail)
  · have W0 := whiv_at hv hf
    have h6 := hv.le
    unfold frZ
    by_cases h : f < a.1
    · rw [if_pos h] at W0 ⊢
      have I0 := Is_at a.1 a.2 f hv.fa h
      have Whi_at : WhiS.rel [zzn a.1 a b, iv f] [] (.tup [iv 0, iv 0]) [] := W0
      have Isz_at : IszS.rel [.agg [iv a.1, dN a.2], iv f] [] (.tup [bv (frM a.2 f), iv 0]) [] := I0
      have rB := resB_at (frM a.2 f) 0
      rw [if_pos rfl] at rB
      have resB_at : resBS.rel [bv (frM a.2 f), iv 0] [] (.tup [bv (frM a.2 f), iv 0]) [] := rB
      repeat' (first
        | (with_reducible first | refine W_seq ?_ | refine W_condT rfl ?_ | refine W_condF rfl ?_ | refine W_tf rfl (fun h => ?_) (fun h => ?_) | refine endQ_ret ?_ | refine endQ_normal ?_)
        | ((with_reducible first | refine hK _ ?_ | refine hK _ _ ?_); clear hK K)
        | ((first | (with_reducible first | refine ops_cons (fun K hK => ?_) | refine opsd_cons (fun K hK => ?_) | refine ops_nil ?_ | refine fit_i64 (by omega) ?_ | refine fit_any ?_) | ((with_reducible refine opsd_nil ?_); refine And.intro (by kernel_rfl) ?_) | with_reducible refine callV_snap ?_ | ((with_reducible refine call_go WhiS Whi_ok ?_); refine ⟨(by first | exact alOk_nil _ | exact alOk_f rfl), _, _, Whi_at , ?_⟩) | ((with_reducible refine call_go IszS Isz_ok ?_); refine ⟨(by first | exact alOk_nil _ | exact alOk_f rfl), _, _, Isz_at , ?_⟩) | ((with_reducible refine call_go basevS basev_ok ?_); refine ⟨(by first | exact alOk_nil _ | exact alOk_f rfl), _, _, basev_at hv 0 (.inl rfl), ?_⟩) | ((with_reducible refine call_go resBS resB_ok ?_); refine ⟨(by first | exact alOk_nil _ | exact alOk_f rfl), _, _, resB_at , ?_⟩) | (with_reducible first | refine idx_map (by omega) ?_ | refine W_reg lv26ZnD ?_ | refine W_drw lv26ZnD (by kernel_rfl) ?_ | refine W_skip ?_ | refine W_ret ?_ | refine end_at0 ?_) | (with_reducible refine And.intro (fun h => ?_) (fun h => ?_)) | (with_reducible refine And.intro (by omega) ?_)); (try simp only [go_sem, seval, reduceCtorEq, Int.zero_mul, Int.sub_zero, lv26ZnD, Try.ntmps26, Try.results26, isZS]))
        | fail)
    · rw [if_neg h] at W0 ⊢
      have I0 := Is_at b.1 b.2 (f - a.1) hv.fb (by omega)
      have hs : (f : Int) - (a.1 : Int) = ((f - a.1 : Nat) : Int) := by omega
      have Whi_at : WhiS.rel [zzn a.1 a b, iv f] [] (.tup [iv 1, iv 0]) [] := W0
      have Isz_at : IszS.rel [.agg [iv b.1, dN b.2], iv ((f - a.1 : Nat) : Int)] [] (.tup [bv (frM b.2 (f - a.1)), iv 0]) [] := I0
      generalize frM b.2 (f - a.1) = v at *
      have rB := resB_at v 0
      rw [if_pos rfl] at rB
      have resB_at : resBS.rel [bv v, iv 0] [] (.tup [bv v, iv 0]) [] := rB
      repeat' (first
        | (with_reducible first | refine W_seq ?_ | refine W_condT rfl ?_ | refine W_condF rfl ?_ | refine W_tf rfl (fun h => ?_) (fun h => ?_) | refine endQ_ret ?_ | refine endQ_normal ?_)
        | ((with_reducible first | refine hK _ ?_ | refine hK _ _ ?_); clear hK K)
        | ((first | (with_reducible first | refine ops_cons (fun K hK => ?_) | refine opsd_cons (fun K hK => ?_) | refine ops_nil ?_ | refine fit_i64 (by omega) ?_ | refine fit_any ?_) | ((with_reducible refine opsd_nil ?_); refine And.intro (by kernel_rfl) ?_) | with_reducible refine callV_snap ?_ | ((with_reducible refine call_go WhiS Whi_ok ?_); refine ⟨(by first | exact alOk_nil _ | exact alOk_f rfl), _, _, Whi_at , ?_⟩) | ((with_reducible refine call_go IszS Isz_ok ?_); refine ⟨(by first | exact alOk_nil _ | exact alOk_f rfl), _, _, Isz_at , ?_⟩) | ((with_reducible refine call_go basevS basev_ok ?_); refine ⟨(by first | exact alOk_nil _ | exact alOk_f rfl), _, _, basev_at hv 1 (.inr rfl), ?_⟩) | ((with_reducible refine call_go resBS resB_ok ?_); refine ⟨(by first | exact alOk_nil _ | exact alOk_f rfl), _, _, resB_at , ?_⟩) | (with_reducible first | refine idx_map (by omega) ?_ | refine W_reg lv26ZnD ?_ | refine W_drw lv26ZnD (by kernel_rfl) ?_ | refine W_skip ?_ | refine W_ret ?_ | refine end_at0 ?_) | (with_reducible refine And.intro (fun h => ?_) (fun h => ?_)) | (with_reducible refine And.intro (by omega) ?_)); (try simp only [go_sem, seval, reduceCtorEq, Int.one_mul, hs, lv26ZnD, Try.ntmps26, Try.results26, isZS]))
        | fail)
set_option maxHeartbeats 2000000 in
theorem risZ_ok : Ok Try.prog 27 isZS := by
  refine fn_ok isZS Try.func27 rfl rfl ?_
  rintro args ins res outs (⟨low, zs, f, hl, hz, he, rfl, rfl, rfl, rfl⟩ | ⟨a, b, f, hv, hf, rfl, rfl, rfl, rfl⟩)
  all_goals refine ⟨by simp [Try.ntmps27], fun w0 V Bo mu0 => ?_⟩
  · have W0 := Whi_at low zs f hl hz
    generalize whiE low zs f = r at *
    have rWhi_at : WhiS.rel [zzv low zs, iv f] [] (.tup [iv r.1, iv r.2]) [] := W0
    repeat' (first
      | (with_reducible first | refine W_seq ?_ | refine W_condT rfl ?_ | refine W_condF rfl ?_ | refine W_tf rfl (fun h => ?_) (fun h => ?_) | refine endQ_ret ?_ | refine endQ_normal ?_)
      | ((with_reducible first | refine hK _ ?_ | refine hK _ _ ?_); clear hK K)
      | ((first | (with_reducible first | refine ops_cons (fun K hK => ?_) | refine opsd_cons (fun K hK => ?_) | refine ops_nil ?_ | refine fit_i64 (by omega) ?_ | refine fit_any ?_) | ((with_reducible refine opsd_nil ?_); refine And.intro (by kernel_rfl) ?_) | with_reducible refine callV_snap ?_ | ((with_reducible refine call_go rWhiS rWhi_ok ?_); refine ⟨(by first | exact alOk_nil _ | exact alOk_f rfl), _, _, rWhi_at , ?_⟩) | (with_reducible first | refine idx_map (by omega) ?_ | refine W_reg lv27ZnD ?_ | refine W_drw lv27ZnD (by kernel_rfl) ?_ | refine W_skip ?_ | refine W_ret ?_ | refine end_at0 ?_) | (with_reducible refine And.intro (fun h => ?_) (fun h => ?_)) | (with_reducible refine And.intro (by omega) ?_)); (try simp only [go_sem, seval, reduceCtorEq, he, lv27ZnD, Try.ntmps27, Try.results27, isZS]))
      | fail)
  · have W0 := whiv_at hv hf
    have h6 := hv.le
    unfold frZ
    by_cases h : f < a.1
    · rw [if_pos h] at W0 ⊢
      have I0 := Is_at a.1 a.2 f hv.fa h
      have rWhi_at : WhiS.rel [zzn a.1 a b, iv f] [] (.tup [iv 0, iv 0]) [] := W0
      have rIsz_at : IszS.rel [.agg [iv a.1, dN a.2], iv f] [] (.tup [bv (frM a.2 f), iv 0]) [] := I0
      have rB := resB_at (frM a.2 f) 0
      rw [if_pos rfl] at rB
      have resB_at : resBS.rel [bv (frM a.2 f), iv 0] [] (.tup [bv (frM a.2 f), iv 0]) [] := rB
      repeat' (first
        | (with_reducible first | refine W_seq ?_ | refine W_condT rfl ?_ | refine W_condF rfl ?_ | refine W_tf rfl (fun h => ?_) (fun h => ?_) | refine endQ_ret ?_ | refine endQ_normal ?_)
        | ((with_reducible first | refine hK _ ?_ | refine hK _ _ ?_); clear hK K)
        | ((first | (with_reducible first | refine ops_cons (fun K hK => ?_) | refine opsd_cons (fun K hK => ?_) | refine ops_nil ?_ | refine fit_i64 (by omega) ?_ | refine fit_any ?_) | ((with_reducible refine opsd_nil ?_); refine And.intro (by kernel_rfl) ?_) | with_reducible refine callV_snap ?_ | ((with_reducible refine call_go rWhiS rWhi_ok ?_); refine ⟨(by first | exact alOk_nil _ | exact alOk_f rfl), _, _, rWhi_at , ?_⟩) | ((with_reducible refine call_go rIszS rIsz_ok ?_); refine ⟨(by first | exact alOk_nil _ | exact alOk_f rfl), _, _, rIsz_at , ?_⟩) | ((with_reducible refine call_go basevS basev_ok ?_); refine ⟨(by first | exact alOk_nil _ | exact alOk_f rfl), _, _, basev_at hv 0 (.inl rfl), ?_⟩) | ((with_reducible refine call_go resBS resB_ok ?_); refine ⟨(by first | exact alOk_nil _ | exact alOk_f rfl), _, _, resB_at , ?_⟩) | (with_reducible first | refine idx_map (by omega) ?_ | refine W_reg lv27ZnD ?_ | refine W_drw lv27ZnD (by kernel_rfl) ?_ | refine W_skip ?_ | refine W_ret ?_ | refine end_at0 ?_) | (with_reducible refine And.intro (fun h => ?_) (fun h => ?_)) | (with_reducible refine And.intro (by omega) ?_)); (try simp only [go_sem, seval, reduceCtorEq, Int.zero_mul, Int.sub_zero, lv27ZnD, Try.ntmps27, Try.results27, isZS]))
        | fail)
    · rw [if_neg h] at W0 ⊢
      have I0 := Is_at b.1 b.2 (f - a.1) hv.fb (by omega)
      have hs : (f : Int) - (a.1 : Int) = ((f - a.1 : Nat) : Int) := by omega
      have rWhi_at : WhiS.rel [zzn a.1 a b, iv f] [] (.tup [iv 1, iv 0]) [] := W0
      have rIsz_at : IszS.rel [.agg [iv b.1, dN b.2], iv ((f - a.1 : Nat) : Int)] [] (.tup [bv (frM b.2 (f - a.1)), iv 0]) [] := I0
      generalize frM b.2 (f - a.1) = v at *
      have rB := resB_at v 0
      rw [if_pos rfl] at rB
      have resB_at : resBS.rel [bv v, iv 0] [] (.tup [bv v, iv 0]) [] := rB
      repeat' (first
        | (with_reducible first | refine W_seq ?_ | refine W_condT rfl ?_ | refine W_condF rfl ?_ | refine W_tf rfl (fun h => ?_) (fun h => ?_) | refine endQ_ret ?_ | refine endQ_normal ?_)
        | ((with_reducible first | refine hK _ ?_ | refine hK _ _ ?_); clear hK K)
        | ((first | (with_reducible first | refine ops_cons (fun K hK => ?_) | refine opsd_cons (fun K hK => ?_) | refine ops_nil ?_ | refine fit_i64 (by omega) ?_ | refine fit_any ?_) | ((with_reducible refine opsd_nil ?_); refine And.intro (by kernel_rfl) ?_) | with_reducible refine callV_snap ?_ | ((with_reducible refine call_go rWhiS rWhi_ok ?_); refine ⟨(by first | exact alOk_nil _ | exact alOk_f rfl), _, _, rWhi_at , ?_⟩) | ((with_reducible refine call_go rIszS rIsz_ok ?_); refine ⟨(by first | exact alOk_nil _ | exact alOk_f rfl), _, _, rIsz_at , ?_⟩) | ((with_reducible refine call_go basevS basev_ok ?_); refine ⟨(by first | exact alOk_nil _ | exact alOk_f rfl), _, _, basev_at hv 1 (.inr rfl), ?_⟩) | ((with_reducible refine call_go resBS resB_ok ?_); refine ⟨(by first | exact alOk_nil _ | exact alOk_f rfl), _, _, resB_at , ?_⟩) | (with_reducible first | refine idx_map (by omega) ?_ | refine W_reg lv27ZnD ?_ | refine W_drw lv27ZnD (by kernel_rfl) ?_ | refine W_skip ?_ | refine W_ret ?_ | refine end_at0 ?_) | (with_reducible refine And.intro (fun h => ?_) (fun h => ?_)) | (with_reducible refine And.intro (by omega) ?_)); (try simp only [go_sem, seval, reduceCtorEq, Int.one_mul, hs, lv27ZnD, Try.ntmps27, Try.results27, isZS]))
        | fail)

def TsS : Spec := { rel := fun args ins res outs => (∃ (low : Int) (zs : List Zo), zs.length ≤ 1000000 ∧ (∀ z ∈ zs, z.2.length ≤ 1000000) ∧ zzchk low zs ≠ 0 ∧ args = [zzv low zs] ∧ ins = [] ∧ res = .tup [.nil, iv (zzchk low zs)] ∧ outs = []) ∨
  (∃ a b : Zn, Vzz a b ∧ args = [zzn a.1 a b] ∧ ins = [] ∧ res = .tup [.row 0 1 0 2, iv 0] ∧ outs = [.rows 3 1 [[.int .i64 (tot a.2 : Int)], [.int .i64 (tot b.2 : Int)]]]) }
theorem tot_le {N : Nat} {m : List Bl} (h : Vz N m) : tot m ≤ 16384 := by
  have := totTo_le m (fun b hb => (h.v.ok b hb).1) m.length (Nat.le_refl _)
  have := h.v.len
  unfold tot; omega
set_option maxHeartbeats 2000000 in
theorem Ts_ok : Ok Try.prog 30 TsS := by
  refine fn_ok TsS Try.func30 rfl rfl ?_
  rintro args ins res outs (⟨low, zs, hl, hz, he, rfl, rfl, rfl, rfl⟩ | ⟨a, b, hv, rfl, rfl, rfl, rfl⟩)
  all_goals refine ⟨by simp [Try.ntmps30], fun w0 V Bo mu0 => ?_⟩
  · skip
    repeat' (first
      | (with_reducible first | refine W_seq ?_ | refine W_condT rfl ?_ | refine W_condF rfl ?_ | refine W_tf rfl (fun h => ?_) (fun h => ?_) | refine W_block ?_ | refine endQ_ret ?_ | refine endQ_normal ?_)
      | ((with_reducible first | refine hK _ ?_ | refine hK _ _ ?_); clear hK K)
      | ((first | (with_reducible first | refine ops_cons (fun K hK => ?_) | refine ops_nil ?_ | refine fit_i64 (by omega) ?_ | refine fit_any ?_) | with_reducible refine callV_snap ?_ | ((with_reducible refine call_go CkzS Ckz_ok ?_); refine ⟨(by first | exact alOk_nil _ | exact alOk_f rfl), _, _, Ckz_at low zs hl hz, ?_⟩) | (with_reducible first | refine slice_old ?_ | refine app_grow ?_ | refine idx_map (by omega) ?_ | refine W_reg lv30ZnD ?_ | refine W_skip ?_ | refine W_exit ?_ | refine W_ret ?_ | refine end_at0 ?_) | (with_reducible refine And.intro (fun h => ?_) (fun h => ?_)) | (with_reducible refine And.intro (by omega) ?_)); (try simp only [go_sem, seval, reduceCtorEq, he, lv30ZnD, Try.ntmps30, Try.results30, TsS]))
      | fail)
  · have T0 := Tot_at a.1 a.2 hv.fa
    have T1 := Tot_at b.1 b.2 hv.fb
    have t0 := tot_le hv.fa
    have t1 := tot_le hv.fb
    have Ttl_at : TtlS.rel [.agg [iv a.1, dN a.2]] [] (.tup [iv (tot a.2), iv 0]) [] := T0
    have Tot_at : TotS.rel [.agg [iv b.1, dN b.2]] [] (.tup [iv (tot b.2), iv 0]) [] := T1
    generalize tot a.2 = x at *
    generalize tot b.2 = y at *
    repeat' (first
      | (with_reducible first | refine W_seq ?_ | refine W_condT rfl ?_ | refine W_condF rfl ?_ | refine W_tf rfl (fun h => ?_) (fun h => ?_) | refine W_block ?_ | refine endQ_ret ?_ | refine endQ_normal ?_)
      | ((with_reducible first | refine hK _ ?_ | refine hK _ _ ?_); clear hK K)
      | (with_reducible refine W_rounds 3 ?_)
      | (with_reducible refine Wn_succ ?_)
      | ((first | (with_reducible first | refine ops_cons (fun K hK => ?_) | refine ops_nil ?_ | refine fit_i64 (by omega) ?_ | refine fit_any ?_) | with_reducible refine callV_snap ?_ | ((with_reducible refine call_go CkvS Ckv_ok ?_); refine ⟨(by first | exact alOk_nil _ | exact alOk_f rfl), _, _, Ckv_at hv, ?_⟩) | ((with_reducible refine call_go TtlS Ttl_ok ?_); refine ⟨(by first | exact alOk_nil _ | exact alOk_f rfl), _, _, Ttl_at , ?_⟩) | ((with_reducible refine call_go TotS Tot_ok ?_); refine ⟨(by first | exact alOk_nil _ | exact alOk_f rfl), _, _, Tot_at , ?_⟩) | (with_reducible first | refine slice_old ?_ | refine app_grow ?_ | refine idx_map (by omega) ?_ | refine W_reg lv30ZnD ?_ | refine W_skip ?_ | refine W_exit ?_ | refine end_at0 ?_) | (with_reducible refine And.intro (fun h => ?_) (fun h => ?_)) | (with_reducible refine And.intro (by omega) ?_)); (try simp only [go_sem, seval, reduceCtorEq, lv30ZnD, Try.ntmps30, Try.results30, TsS]))
      | fail)
    refine W_ret (endQ_ret (end_at [6] ?_))
    simp [go_sem, Try.results30, TsS, flatD]
set_option maxHeartbeats 2000000 in
theorem rTs_ok : Ok Try.prog 31 TsS := by
  refine fn_ok TsS Try.func31 rfl rfl ?_
  rintro args ins res outs (⟨low, zs, hl, hz, he, rfl, rfl, rfl, rfl⟩ | ⟨a, b, hv, rfl, rfl, rfl, rfl⟩)
  all_goals refine ⟨by simp [Try.ntmps31], fun w0 V Bo mu0 => ?_⟩
  · skip
    repeat' (first
      | (with_reducible first | refine W_seq ?_ | refine W_condT rfl ?_ | refine W_condF rfl ?_ | refine W_tf rfl (fun h => ?_) (fun h => ?_) | refine endQ_ret ?_ | refine endQ_normal ?_)
      | ((with_reducible first | refine hK _ ?_ | refine hK _ _ ?_); clear hK K)
      | ((first | (with_reducible first | refine ops_cons (fun K hK => ?_) | refine ops_nil ?_) | with_reducible refine callV_snap ?_ | ((with_reducible refine call_go rCkzS rCkz_ok ?_); refine ⟨(by first | exact alOk_nil _ | exact alOk_f rfl), _, _, rCkz_at low zs hl hz, ?_⟩) | (with_reducible first | refine slice_old ?_ | refine idx_map (by omega) ?_ | refine W_reg lv31ZnD ?_ | refine W_skip ?_ | refine W_ret ?_ | refine end_at0 ?_) | (with_reducible refine And.intro (fun h => ?_) (fun h => ?_)) | (with_reducible refine And.intro (by omega) ?_)); (try simp only [go_sem, seval, reduceCtorEq, he, lv31ZnD, Try.ntmps31, Try.results31, TsS]))
      | fail)
  · have T0 := Tot_at a.1 a.2 hv.fa
    have T1 := Tot_at b.1 b.2 hv.fb
    have t0 := tot_le hv.fa
    have t1 := tot_le hv.fb
    have rTtl_at : TtlS.rel [.agg [iv a.1, dN a.2]] [] (.tup [iv (tot a.2), iv 0]) [] := T0
    have rTot_at : TotS.rel [.agg [iv b.1, dN b.2]] [] (.tup [iv (tot b.2), iv 0]) [] := T1
    generalize tot a.2 = x at *
    generalize tot b.2 = y at *
    repeat' (first
      | (with_reducible first | refine W_seq ?_ | refine W_condT rfl ?_ | refine W_condF rfl ?_ | refine W_tf rfl (fun h => ?_) (fun h => ?_) | refine endQ_ret ?_ | refine endQ_normal ?_)
      | ((with_reducible first | refine hK _ ?_ | refine hK _ _ ?_); clear hK K)
      | (with_reducible refine W_rounds 3 ?_)
      | (with_reducible refine Wn_succ ?_)
      | ((first | (with_reducible first | refine ops_cons (fun K hK => ?_) | refine ops_nil ?_) | with_reducible refine callV_snap ?_ | ((with_reducible refine call_go rCkvS rCkv_ok ?_); refine ⟨(by first | exact alOk_nil _ | exact alOk_f rfl), _, _, rCkv_at hv, ?_⟩) | ((with_reducible refine call_go rTtlS rTtl_ok ?_); refine ⟨(by first | exact alOk_nil _ | exact alOk_f rfl), _, _, rTtl_at , ?_⟩) | ((with_reducible refine call_go rTotS rTot_ok ?_); refine ⟨(by first | exact alOk_nil _ | exact alOk_f rfl), _, _, rTot_at , ?_⟩) | (with_reducible first | refine slice_old ?_ | refine idx_map (by omega) ?_ | refine W_reg lv31ZnD ?_ | refine W_skip ?_ | refine end_at0 ?_) | (with_reducible refine And.intro (fun h => ?_) (fun h => ?_)) | (with_reducible refine And.intro (by omega) ?_)); (try simp only [go_sem, seval, reduceCtorEq, lv31ZnD, Try.ntmps31, Try.results31, TsS]))
      | fail)
    refine W_ret (endQ_ret (end_at [1] ?_))
    simp [go_sem, Try.results31, TsS, flatD]
end Go.Proofs.Ytacfipmigkbncaa
