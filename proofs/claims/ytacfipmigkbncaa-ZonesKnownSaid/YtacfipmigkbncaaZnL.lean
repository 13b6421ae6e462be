/- ZonesFirst, ZonesSteps, by the engine. -/
import Derived.Test.YtacfipmigkbncaaZnK
namespace Go.Proofs.Ytacfipmigkbncaa
open Go.RowKit
set_option maxRecDepth 100000
set_option linter.unusedSimpArgs false
set_option linter.unusedVariables false

abbrev lv7ZnL : List (Nat × List Nat) := [(0, [0, 1, 2]), (1, [1, 2, 7, 9]), (2, [1, 2, 7, 27]), (3, [6]), (4, [7, 10, 11]), (5, [7, 10, 11, 13, 14]), (6, [7, 10, 11, 13, 41]), (7, [6]), (8, [7, 10, 11, 13, 15, 16]), (9, [7, 10, 11, 13, 15, 50]), (10, [6]), (11, [7, 10, 11, 13, 53]), (12, [6]), (13, [13, 18, 19]), (14, [6])]
abbrev lv8ZnL : List (Nat × List Nat) := [(0, [0, 1, 2]), (1, [1, 2, 7, 9]), (2, [1, 2, 7, 36]), (3, [6]), (4, [7, 10, 11]), (5, [7, 10, 11, 12, 13]), (6, [7, 10, 12, 13, 14, 15, 16]), (7, [7, 10, 12, 14, 15, 16, 55]), (8, [6]), (9, [7, 10, 12, 14, 15, 16, 57]), (10, [6]), (11, [7, 10, 12, 13, 14, 15, 17]), (12, [7, 10, 12, 14, 15, 17, 75]), (13, [6]), (14, [7, 10, 12, 14, 15, 17, 18]), (15, [7, 10, 12, 14, 15, 17, 18, 83]), (16, [7, 10, 12, 14, 15, 17, 18]), (17, [7, 10, 12, 14, 15, 17, 18, 19, 20]), (18, [7, 10, 12, 14, 15, 17, 18, 19, 20, 21, 22]), (19, [7, 10, 12, 14, 15, 17, 18, 19, 20, 21, 22, 23, 24]), (20, [7, 10, 12, 14, 15, 17, 18, 125]), (21, [6]), (22, [7, 10, 12, 13, 14, 15, 25]), (23, [7, 10, 12, 13, 14, 15, 16, 25, 26]), (24, [7, 10, 12, 13, 16, 25, 26, 27, 28]), (25, [6])]
theorem alc_other {a b : Zn} {q : Nat} {r : Zn × Zn × Nat} (hv : Vzz a b) (hq : q ≤ 6) :
    (alcZ a b q 0 = some r → ¬ r.2.2 < a.1 → alcZ a b q 1 = some r) ∧ (alcZ a b q 1 = some r → r.2.2 < a.1 → alcZ a b q 0 = some r) := by
  have k1 : ∀ x, al1 a b q = some x → x.2.2 < a.1 := by
    intro x h
    obtain ⟨c, hb, rfl⟩ := al1_some h
    have h3 := (best_take hv.fa hq hb).2.1.2.1
    have := two_pos q
    dsimp only at h3 ⊢; omega
  have k2 : ∀ x, al2 a b q = some x → ¬ x.2.2 < a.1 := by
    intro x h
    obtain ⟨c, hb, rfl⟩ := al2_some h
    dsimp only; omega
  unfold alcZ
  rw [if_pos rfl, if_neg (by decide)]
  constructor
  · intro h h2
    cases h1 : al1 a b q with
    | some x =>
      rw [h1] at h
      have e : x = r := by simpa using h
      exact absurd (e ▸ k1 x h1) h2
    | none =>
      rw [h1] at h
      have e : al2 a b q = some r := by simpa using h
      rw [e]; rfl
  · intro h h2
    cases h1 : al2 a b q with
    | some x =>
      rw [h1] at h
      have e : x = r := by simpa using h
      exact absurd h2 (e ▸ k2 x h1)
    | none =>
      rw [h1] at h
      have e : al1 a b q = some r := by simpa using h
      rw [e]; rfl
abbrev zAllGS : Spec := zAllFS
theorem zAllG_ok : Ok Try.prog 14 zAllGS := zAllF_ok
theorem zall_some {a b : Zn} {q : Nat} {p : Int} {r : Zn × Zn × Nat} (hv : Vzz a b) (hq : q ≤ 6) (hp : p = 0 ∨ p = 1) (h : alcZ a b q p = some r) : zAllFS.rel [zzn a.1 a b, iv q, iv p] [] (.tup [zzn a.1 r.1 r.2.1, iv r.2.2, iv 0]) [] := by
  have := zall_at hv hq hp
  rwa [h] at this
theorem zall_none {a b : Zn} {q : Nat} {p : Int} (hv : Vzz a b) (hq : q ≤ 6) (hp : p = 0 ∨ p = 1) (h : alcZ a b q p = none) : zAllFS.rel [zzn a.1 a b, iv q, iv p] [] (.tup [.agg [iv 0, .d (.sl [])], iv 0, iv 5]) [] := by
  have := zall_at hv hq hp
  rwa [h] at this
def fstS : Spec := { rel := fun args ins res outs => ∃ (nums : List Int) (o p : Int), args = [dI nums, iv o, iv p] ∧ ins = [] ∧ res = bv true ∧ outs = [] }
set_option maxHeartbeats 8000000 in
theorem fst_ok : Ok Try.prog 7 fstS := by
  refine fn_ok fstS Try.func7 rfl rfl ?_
  rintro args ins res outs ⟨nums, o, p, rfl, rfl, rfl, rfl⟩
  refine ⟨by simp [Try.ntmps7], fun w0 V Bo mu0 => ?_⟩
  obtain ⟨hg, _⟩ := mad_gz nums
  obtain ⟨⟨a, b, out⟩, hR⟩ : ∃ s, mad nums = s := ⟨_, rfl⟩
  rw [hR] at hg
  have hv : Vzz a b := hg.v
  have mad_at : madS.rel [dI nums] [] (.tup [zzn a.1 a b, .row 0 2 0 out.length, bv true]) [.rows 87 2 (out.map encN)] := ⟨nums, a, b, out, hR, rfl, rfl, rfl, rfl⟩
  obtain ⟨q, hq⟩ : ∃ q : Nat, o % 4 = q := ⟨(o % 4).toNat, by omega⟩
  have hq6 : q ≤ 6 := by omega
  have hp : p % 2 = 0 ∨ p % 2 = 1 := by omega
  rcases hp with hp | hp
  · cases hr : alcZ a b q 0 with
    | none =>
      have zAllF_at : zAllFS.rel [zzn a.1 a b, iv q, iv 0] [] (.tup [.agg [iv 0, .d (.sl [])], iv 0, iv 5]) [] := zall_none hv hq6 (by decide) hr
      repeat' (first
        | (with_reducible first | refine W_seq ?_ | refine W_condT rfl ?_ | refine W_condF rfl ?_ | refine W_tf rfl (fun h => ?_) (fun h => ?_) | refine endQ_ret ?_ | refine endQ_normal ?_)
        | ((with_reducible first | refine hK _ ?_ | refine hK _ _ ?_); clear hK K)
        | ((first | (with_reducible first | refine ops_cons (fun K hK => ?_) | refine ops_nil ?_ | refine fit_i64 (by omega) ?_ | refine fit_any ?_) | with_reducible refine callV_snap ?_ | ((with_reducible refine call_go madS mad_ok ?_); refine ⟨(by first | exact alOk_nil _ | exact alOk_f rfl), _, _, mad_at , ?_⟩) | ((with_reducible refine call_go ModS Mod_ok ?_); refine ⟨(by first | exact alOk_nil _ | exact alOk_f rfl), _, _, Mod_at o 4 (by omega) (by omega), ?_⟩) | ((with_reducible refine call_go ModS Mod_ok ?_); refine ⟨(by first | exact alOk_nil _ | exact alOk_f rfl), _, _, Mod_at p 2 (by omega) (by omega), ?_⟩) | ((with_reducible refine call_go zAllFS zAllF_ok ?_); refine ⟨(by first | exact alOk_nil _ | exact alOk_f rfl), _, _, zAllF_at , ?_⟩) | ((with_reducible refine call_go awkS awk_ok ?_); refine ⟨(by first | exact alOk_nil _ | exact alOk_f rfl), _, _, awk_at , ?_⟩) | (with_reducible first | refine W_reg lv7ZnL ?_ | refine W_skip ?_ | refine W_ret ?_ | refine end_at0 ?_) | (with_reducible refine And.intro (fun h => ?_) (fun h => ?_)) | (with_reducible refine And.intro (by omega) ?_)); (try simp only [go_sem, seval, reduceCtorEq, hq, hp, lv7ZnL, Try.ntmps7, Try.results7, fstS]))
        | fail)
    | some r =>
      have ha := alc_law hv hq6 hr
      have hlt := (alc_lt ha).1
      have hpq := two_pos q
      have W0 := whiv_at hv (f := r.2.2) (by omega)
      have zAllF_at : zAllFS.rel [zzn a.1 a b, iv q, iv 0] [] (.tup [zzn a.1 r.1 r.2.1, iv r.2.2, iv 0]) [] := zall_some hv hq6 (by decide) hr
      by_cases hw : r.2.2 < a.1
      · rw [if_pos hw] at W0
        have Whi_at : WhiS.rel [zzn a.1 a b, iv r.2.2] [] (.tup [iv 0, iv 0]) [] := W0
        have zAllG_at : zAllGS.rel [zzn a.1 a b, iv q, iv 0] [] (.tup [zzn a.1 r.1 r.2.1, iv r.2.2, iv 0]) [] := zall_some hv hq6 (by decide) (hr)
        repeat' (first
          | (with_reducible first | refine W_seq ?_ | refine W_condT rfl ?_ | refine W_condF rfl ?_ | refine W_tf rfl (fun h => ?_) (fun h => ?_) | refine endQ_ret ?_ | refine endQ_normal ?_)
          | ((with_reducible first | refine hK _ ?_ | refine hK _ _ ?_); clear hK K)
          | ((first | (with_reducible first | refine ops_cons (fun K hK => ?_) | refine ops_nil ?_ | refine fit_i64 (by omega) ?_ | refine fit_any ?_) | with_reducible refine callV_snap ?_ | ((with_reducible refine call_go madS mad_ok ?_); refine ⟨(by first | exact alOk_nil _ | exact alOk_f rfl), _, _, mad_at , ?_⟩) | ((with_reducible refine call_go ModS Mod_ok ?_); refine ⟨(by first | exact alOk_nil _ | exact alOk_f rfl), _, _, Mod_at o 4 (by omega) (by omega), ?_⟩) | ((with_reducible refine call_go ModS Mod_ok ?_); refine ⟨(by first | exact alOk_nil _ | exact alOk_f rfl), _, _, Mod_at p 2 (by omega) (by omega), ?_⟩) | ((with_reducible refine call_go zAllFS zAllF_ok ?_); refine ⟨(by first | exact alOk_nil _ | exact alOk_f rfl), _, _, zAllF_at , ?_⟩) | ((with_reducible refine call_go zAllGS zAllG_ok ?_); refine ⟨(by first | exact alOk_nil _ | exact alOk_f rfl), _, _, zAllG_at , ?_⟩) | ((with_reducible refine call_go WhiS Whi_ok ?_); refine ⟨(by first | exact alOk_nil _ | exact alOk_f rfl), _, _, Whi_at , ?_⟩) | ((with_reducible refine call_go awkS awk_ok ?_); refine ⟨(by first | exact alOk_nil _ | exact alOk_f rfl), _, _, awk_at , ?_⟩) | (with_reducible first | refine W_reg lv7ZnL ?_ | refine W_skip ?_ | refine W_ret ?_ | refine end_at0 ?_) | (with_reducible refine And.intro (fun h => ?_) (fun h => ?_)) | (with_reducible refine And.intro (by omega) ?_)); (try simp only [go_sem, seval, reduceCtorEq, hq, hp, lv7ZnL, Try.ntmps7, Try.results7, fstS]))
          | fail)
      · rw [if_neg hw] at W0
        have Whi_at : WhiS.rel [zzn a.1 a b, iv r.2.2] [] (.tup [iv 1, iv 0]) [] := W0
        have zAllG_at : zAllGS.rel [zzn a.1 a b, iv q, iv 1] [] (.tup [zzn a.1 r.1 r.2.1, iv r.2.2, iv 0]) [] := zall_some hv hq6 (by decide) ((alc_other hv hq6).1 hr hw)
        repeat' (first
          | (with_reducible first | refine W_seq ?_ | refine W_condT rfl ?_ | refine W_condF rfl ?_ | refine W_tf rfl (fun h => ?_) (fun h => ?_) | refine endQ_ret ?_ | refine endQ_normal ?_)
          | ((with_reducible first | refine hK _ ?_ | refine hK _ _ ?_); clear hK K)
          | ((first | (with_reducible first | refine ops_cons (fun K hK => ?_) | refine ops_nil ?_ | refine fit_i64 (by omega) ?_ | refine fit_any ?_) | with_reducible refine callV_snap ?_ | ((with_reducible refine call_go madS mad_ok ?_); refine ⟨(by first | exact alOk_nil _ | exact alOk_f rfl), _, _, mad_at , ?_⟩) | ((with_reducible refine call_go ModS Mod_ok ?_); refine ⟨(by first | exact alOk_nil _ | exact alOk_f rfl), _, _, Mod_at o 4 (by omega) (by omega), ?_⟩) | ((with_reducible refine call_go ModS Mod_ok ?_); refine ⟨(by first | exact alOk_nil _ | exact alOk_f rfl), _, _, Mod_at p 2 (by omega) (by omega), ?_⟩) | ((with_reducible refine call_go zAllFS zAllF_ok ?_); refine ⟨(by first | exact alOk_nil _ | exact alOk_f rfl), _, _, zAllF_at , ?_⟩) | ((with_reducible refine call_go zAllGS zAllG_ok ?_); refine ⟨(by first | exact alOk_nil _ | exact alOk_f rfl), _, _, zAllG_at , ?_⟩) | ((with_reducible refine call_go WhiS Whi_ok ?_); refine ⟨(by first | exact alOk_nil _ | exact alOk_f rfl), _, _, Whi_at , ?_⟩) | ((with_reducible refine call_go awkS awk_ok ?_); refine ⟨(by first | exact alOk_nil _ | exact alOk_f rfl), _, _, awk_at , ?_⟩) | (with_reducible first | refine W_reg lv7ZnL ?_ | refine W_skip ?_ | refine W_ret ?_ | refine end_at0 ?_) | (with_reducible refine And.intro (fun h => ?_) (fun h => ?_)) | (with_reducible refine And.intro (by omega) ?_)); (try simp only [go_sem, seval, reduceCtorEq, hq, hp, lv7ZnL, Try.ntmps7, Try.results7, fstS]))
          | fail)
  · cases hr : alcZ a b q 1 with
    | none =>
      have zAllF_at : zAllFS.rel [zzn a.1 a b, iv q, iv 1] [] (.tup [.agg [iv 0, .d (.sl [])], iv 0, iv 5]) [] := zall_none hv hq6 (by decide) hr
      repeat' (first
        | (with_reducible first | refine W_seq ?_ | refine W_condT rfl ?_ | refine W_condF rfl ?_ | refine W_tf rfl (fun h => ?_) (fun h => ?_) | refine endQ_ret ?_ | refine endQ_normal ?_)
        | ((with_reducible first | refine hK _ ?_ | refine hK _ _ ?_); clear hK K)
        | ((first | (with_reducible first | refine ops_cons (fun K hK => ?_) | refine ops_nil ?_ | refine fit_i64 (by omega) ?_ | refine fit_any ?_) | with_reducible refine callV_snap ?_ | ((with_reducible refine call_go madS mad_ok ?_); refine ⟨(by first | exact alOk_nil _ | exact alOk_f rfl), _, _, mad_at , ?_⟩) | ((with_reducible refine call_go ModS Mod_ok ?_); refine ⟨(by first | exact alOk_nil _ | exact alOk_f rfl), _, _, Mod_at o 4 (by omega) (by omega), ?_⟩) | ((with_reducible refine call_go ModS Mod_ok ?_); refine ⟨(by first | exact alOk_nil _ | exact alOk_f rfl), _, _, Mod_at p 2 (by omega) (by omega), ?_⟩) | ((with_reducible refine call_go zAllFS zAllF_ok ?_); refine ⟨(by first | exact alOk_nil _ | exact alOk_f rfl), _, _, zAllF_at , ?_⟩) | ((with_reducible refine call_go awkS awk_ok ?_); refine ⟨(by first | exact alOk_nil _ | exact alOk_f rfl), _, _, awk_at , ?_⟩) | (with_reducible first | refine W_reg lv7ZnL ?_ | refine W_skip ?_ | refine W_ret ?_ | refine end_at0 ?_) | (with_reducible refine And.intro (fun h => ?_) (fun h => ?_)) | (with_reducible refine And.intro (by omega) ?_)); (try simp only [go_sem, seval, reduceCtorEq, hq, hp, lv7ZnL, Try.ntmps7, Try.results7, fstS]))
        | fail)
    | some r =>
      have ha := alc_law hv hq6 hr
      have hlt := (alc_lt ha).1
      have hpq := two_pos q
      have W0 := whiv_at hv (f := r.2.2) (by omega)
      have zAllF_at : zAllFS.rel [zzn a.1 a b, iv q, iv 1] [] (.tup [zzn a.1 r.1 r.2.1, iv r.2.2, iv 0]) [] := zall_some hv hq6 (by decide) hr
      by_cases hw : r.2.2 < a.1
      · rw [if_pos hw] at W0
        have Whi_at : WhiS.rel [zzn a.1 a b, iv r.2.2] [] (.tup [iv 0, iv 0]) [] := W0
        have zAllG_at : zAllGS.rel [zzn a.1 a b, iv q, iv 0] [] (.tup [zzn a.1 r.1 r.2.1, iv r.2.2, iv 0]) [] := zall_some hv hq6 (by decide) ((alc_other hv hq6).2 hr hw)
        repeat' (first
          | (with_reducible first | refine W_seq ?_ | refine W_condT rfl ?_ | refine W_condF rfl ?_ | refine W_tf rfl (fun h => ?_) (fun h => ?_) | refine endQ_ret ?_ | refine endQ_normal ?_)
          | ((with_reducible first | refine hK _ ?_ | refine hK _ _ ?_); clear hK K)
          | ((first | (with_reducible first | refine ops_cons (fun K hK => ?_) | refine ops_nil ?_ | refine fit_i64 (by omega) ?_ | refine fit_any ?_) | with_reducible refine callV_snap ?_ | ((with_reducible refine call_go madS mad_ok ?_); refine ⟨(by first | exact alOk_nil _ | exact alOk_f rfl), _, _, mad_at , ?_⟩) | ((with_reducible refine call_go ModS Mod_ok ?_); refine ⟨(by first | exact alOk_nil _ | exact alOk_f rfl), _, _, Mod_at o 4 (by omega) (by omega), ?_⟩) | ((with_reducible refine call_go ModS Mod_ok ?_); refine ⟨(by first | exact alOk_nil _ | exact alOk_f rfl), _, _, Mod_at p 2 (by omega) (by omega), ?_⟩) | ((with_reducible refine call_go zAllFS zAllF_ok ?_); refine ⟨(by first | exact alOk_nil _ | exact alOk_f rfl), _, _, zAllF_at , ?_⟩) | ((with_reducible refine call_go zAllGS zAllG_ok ?_); refine ⟨(by first | exact alOk_nil _ | exact alOk_f rfl), _, _, zAllG_at , ?_⟩) | ((with_reducible refine call_go WhiS Whi_ok ?_); refine ⟨(by first | exact alOk_nil _ | exact alOk_f rfl), _, _, Whi_at , ?_⟩) | ((with_reducible refine call_go awkS awk_ok ?_); refine ⟨(by first | exact alOk_nil _ | exact alOk_f rfl), _, _, awk_at , ?_⟩) | (with_reducible first | refine W_reg lv7ZnL ?_ | refine W_skip ?_ | refine W_ret ?_ | refine end_at0 ?_) | (with_reducible refine And.intro (fun h => ?_) (fun h => ?_)) | (with_reducible refine And.intro (by omega) ?_)); (try simp only [go_sem, seval, reduceCtorEq, hq, hp, lv7ZnL, Try.ntmps7, Try.results7, fstS]))
          | fail)
      · rw [if_neg hw] at W0
        have Whi_at : WhiS.rel [zzn a.1 a b, iv r.2.2] [] (.tup [iv 1, iv 0]) [] := W0
        have zAllG_at : zAllGS.rel [zzn a.1 a b, iv q, iv 1] [] (.tup [zzn a.1 r.1 r.2.1, iv r.2.2, iv 0]) [] := zall_some hv hq6 (by decide) (hr)
        repeat' (first
          | (with_reducible first | refine W_seq ?_ | refine W_condT rfl ?_ | refine W_condF rfl ?_ | refine W_tf rfl (fun h => ?_) (fun h => ?_) | refine endQ_ret ?_ | refine endQ_normal ?_)
          | ((with_reducible first | refine hK _ ?_ | refine hK _ _ ?_); clear hK K)
          | ((first | (with_reducible first | refine ops_cons (fun K hK => ?_) | refine ops_nil ?_ | refine fit_i64 (by omega) ?_ | refine fit_any ?_) | with_reducible refine callV_snap ?_ | ((with_reducible refine call_go madS mad_ok ?_); refine ⟨(by first | exact alOk_nil _ | exact alOk_f rfl), _, _, mad_at , ?_⟩) | ((with_reducible refine call_go ModS Mod_ok ?_); refine ⟨(by first | exact alOk_nil _ | exact alOk_f rfl), _, _, Mod_at o 4 (by omega) (by omega), ?_⟩) | ((with_reducible refine call_go ModS Mod_ok ?_); refine ⟨(by first | exact alOk_nil _ | exact alOk_f rfl), _, _, Mod_at p 2 (by omega) (by omega), ?_⟩) | ((with_reducible refine call_go zAllFS zAllF_ok ?_); refine ⟨(by first | exact alOk_nil _ | exact alOk_f rfl), _, _, zAllF_at , ?_⟩) | ((with_reducible refine call_go zAllGS zAllG_ok ?_); refine ⟨(by first | exact alOk_nil _ | exact alOk_f rfl), _, _, zAllG_at , ?_⟩) | ((with_reducible refine call_go WhiS Whi_ok ?_); refine ⟨(by first | exact alOk_nil _ | exact alOk_f rfl), _, _, Whi_at , ?_⟩) | ((with_reducible refine call_go awkS awk_ok ?_); refine ⟨(by first | exact alOk_nil _ | exact alOk_f rfl), _, _, awk_at , ?_⟩) | (with_reducible first | refine W_reg lv7ZnL ?_ | refine W_skip ?_ | refine W_ret ?_ | refine end_at0 ?_) | (with_reducible refine And.intro (fun h => ?_) (fun h => ?_)) | (with_reducible refine And.intro (by omega) ?_)); (try simp only [go_sem, seval, reduceCtorEq, hq, hp, lv7ZnL, Try.ntmps7, Try.results7, fstS]))
          | fail)
theorem Ttv_at {a b : Zn} (hv : Vzz a b) : TtS.rel [zzn a.1 a b] [] (.tup [iv ((tot a.2 + tot b.2 : Nat) : Int), iv 0]) [] := by
  have := Tt_at a.1 [toZ a, toZ b] (by simp) (zzn_le hv.l2a hv.l2b)
  rwa [tsE_v hv, zzchk_v hv, zz2_eq, zz2_toZ, show ([(tot a.2 : Int), (tot b.2 : Int)]).sum = ((tot a.2 + tot b.2 : Nat) : Int) by simp] at this
theorem Tsv_at {a b : Zn} (hv : Vzz a b) : TsFS.rel [zzn a.1 a b] [] (.tup [.d (.sl [[.int .i64 (tot a.2 : Int)], [.int .i64 (tot b.2 : Int)]]), iv 0]) [] := by
  have := tsF_ex a.1 [toZ a, toZ b] (by simp) (zzn_le hv.l2a hv.l2b)
  rwa [tsE_v hv, zzchk_v hv, zz2_eq, zz2_toZ] at this
theorem SmZn_at {a b : Zn} (hv : Vzz a b) : SmZS.rel [zzn a.1 a b, zzn a.1 a b] [] (bv true) [] := by
  have := SmZ_at a.1 [toZ a, toZ b] (by simp) (zzn_le hv.l2a hv.l2b)
  rwa [zz2_eq, zz2_toZ] at this
abbrev WhjS : Spec := WhiS
theorem Whj_ok : Ok Try.prog 24 WhjS := Whi_ok
abbrev IzxS : Spec := isZS
theorem Izx_ok : Ok Try.prog 26 IzxS := isZ_ok
abbrev TtxS : Spec := TtS
theorem Ttx_ok : Ok Try.prog 28 TtxS := Tt_ok
def stpS : Spec := { rel := fun args ins res outs => ∃ (nums : List Int) (o p : Int), args = [dI nums, iv o, iv p] ∧ ins = [] ∧ res = bv true ∧ outs = [] }
set_option maxHeartbeats 8000000 in
theorem stp_ok : Ok Try.prog 8 stpS := by
  refine fn_ok stpS Try.func8 rfl rfl ?_
  rintro args ins res outs ⟨nums, o, p, rfl, rfl, rfl, rfl⟩
  refine ⟨by simp [Try.ntmps8], fun w0 V Bo mu0 => ?_⟩
  obtain ⟨hg, _⟩ := mad_gz nums
  obtain ⟨⟨a, b, out⟩, hR⟩ : ∃ s, mad nums = s := ⟨_, rfl⟩
  rw [hR] at hg
  have hv : Vzz a b := hg.v
  have mad_at : madS.rel [dI nums] [] (.tup [zzn a.1 a b, .row 0 2 0 out.length, bv true]) [.rows 87 2 (out.map encN)] := ⟨nums, a, b, out, hR, rfl, rfl, rfl, rfl⟩
  obtain ⟨q, hq⟩ : ∃ q : Nat, o % 4 = q := ⟨(o % 4).toNat, by omega⟩
  have hq6 : q ≤ 6 := by omega
  have hp : p % 2 = 0 ∨ p % 2 = 1 := by omega
  obtain ⟨P, hP⟩ : ∃ P : Int, p % 2 = P := ⟨_, rfl⟩
  rw [hP] at hp
  have Tt_at := Ttv_at hv
  cases hr : alcZ a b q P with
  | none =>
    have zAllF_at : zAllFS.rel [zzn a.1 a b, iv q, iv P] [] (.tup [.agg [iv 0, .d (.sl [])], iv 0, iv 5]) [] := zall_none hv hq6 hp hr
    repeat' (first
      | (with_reducible first | refine W_seq ?_ | refine W_condT rfl ?_ | refine W_condF rfl ?_ | refine W_tf rfl (fun h => ?_) (fun h => ?_) | refine W_block ?_ | refine endQ_ret ?_ | refine endQ_normal ?_)
      | ((with_reducible first | refine hK _ ?_ | refine hK _ _ ?_); clear hK K)
      | ((first | (with_reducible first | refine ops_cons (fun K hK => ?_) | refine opsd_cons (fun K hK => ?_) | refine ops_nil ?_ | refine fit_i64 (by omega) ?_ | refine fit_u8 (by omega) ?_ | refine fit_u64 (by omega) ?_ | refine fit_u32 (by omega) ?_ | refine fit_any ?_ | refine sh_in (by simp only [IntKind.bits]; omega) ?_) | ((with_reducible refine opsd_nil ?_); refine And.intro (by kernel_rfl) ?_) | with_reducible refine callV_snap ?_ | ((with_reducible refine call_go madS mad_ok ?_); refine ⟨(by first | exact alOk_nil _ | exact alOk_f rfl), _, _, mad_at , ?_⟩) | ((with_reducible refine call_go ModS Mod_ok ?_); refine ⟨(by first | exact alOk_nil _ | exact alOk_f rfl), _, _, Mod_at o 4 (by omega) (by omega), ?_⟩) | ((with_reducible refine call_go ModS Mod_ok ?_); refine ⟨(by first | exact alOk_nil _ | exact alOk_f rfl), _, _, Mod_at p 2 (by omega) (by omega), ?_⟩) | ((with_reducible refine call_go TtS Tt_ok ?_); refine ⟨(by first | exact alOk_nil _ | exact alOk_f rfl), _, _, Tt_at , ?_⟩) | ((with_reducible refine call_go zAllFS zAllF_ok ?_); refine ⟨(by first | exact alOk_nil _ | exact alOk_f rfl), _, _, zAllF_at , ?_⟩) | ((with_reducible refine call_go awkS awk_ok ?_); refine ⟨(by first | exact alOk_nil _ | exact alOk_f rfl), _, _, awk_at , ?_⟩) | (with_reducible first | refine idx_map (by omega) ?_ | refine W_reg lv8ZnL ?_ | refine W_drw lv8ZnL (by kernel_rfl) ?_ | refine W_skip ?_ | refine W_exit ?_ | refine W_ret ?_ | refine end_at0 ?_) | (with_reducible refine And.intro (fun h => ?_) (fun h => ?_)) | (with_reducible refine And.intro (by omega) ?_)); (try simp only [go_sem, seval, reduceCtorEq, hq, hP, lv8ZnL, Try.ntmps8, Try.results8, stpS]))
      | fail)
  | some r =>
    have ha := alc_law hv hq6 hr
    obtain ⟨hlt, hsm⟩ := alc_lt ha
    have hpq := p64 q hq6
    have zAllF_at : zAllFS.rel [zzn a.1 a b, iv q, iv P] [] (.tup [zzn a.1 r.1 r.2.1, iv r.2.2, iv 0]) [] := zall_some hv hq6 hp hr
    have hv2 := ha.v
    have hle := hv.le
    have htt := alc_tot hv ha
    have ht0 := tot_le hv.fa
    have ht1 := tot_le hv.fb
    have zFrF_at : zFrFS.rel [zzn a.1 r.1 r.2.1, iv r.2.2, iv q] [] (.tup [zzn a.1 a b, iv 0]) [] := by
      obtain ⟨h1, h2⟩ := alc_back hv ha
      have := zfr_at hv2 h1
      dsimp only at this
      rwa [h2, ha.ea] at this
    have Ttx_at : TtxS.rel [zzn a.1 r.1 r.2.1] [] (.tup [iv ((tot r.1.2 + tot r.2.1.2 : Nat) : Int), iv 0]) [] := by
      have := Ttv_at hv2
      rwa [ha.ea] at this
    have TsF_at : TsFS.rel [zzn a.1 r.1 r.2.1] [] (.tup [.d (.sl [[.int .i64 (tot r.1.2 : Int)], [.int .i64 (tot r.2.1.2 : Int)]]), iv 0]) [] := by
      have := Tsv_at hv2
      rwa [ha.ea] at this
    have Ckv_at : CkvS.rel [zzn a.1 r.1 r.2.1] [] (iv 0) [] := by
      have := Ckv_at hv2
      rwa [ha.ea] at this
    have SmZ_at := SmZn_at hv
    obtain ⟨wh, hwh⟩ : ∃ wh : Int, (if r.2.2 < a.1 then 0 else 1) = wh := ⟨_, rfl⟩
    have W0 := whiv_at hv (f := r.2.2) (by omega)
    rw [hwh] at W0
    have Whi_at : WhiS.rel [zzn a.1 a b, iv r.2.2] [] (.tup [iv wh, iv 0]) [] := W0
    have hloop : ∀ j : Nat, j < 2 ^ q → IzxS.rel [zzn a.1 a b, iv ((r.2.2 + j : Nat) : Int)] [] (.tup [bv true, iv 0]) [] ∧ IzxS.rel [zzn a.1 r.1 r.2.1, iv ((r.2.2 + j : Nat) : Int)] [] (.tup [bv false, iv 0]) [] ∧ WhiS.rel [zzn a.1 a b, iv ((r.2.2 + j : Nat) : Int)] [] (.tup [iv wh, iv 0]) [] := by
      intro j hj
      have hin : inb r.2.2 q (r.2.2 + j) = true := inb_iff.2 ⟨by dsimp only; omega, by dsimp only; omega⟩
      obtain ⟨w1, w2⟩ := alc_was ha hin
      refine ⟨.inr ⟨a, b, r.2.2 + j, hv, by omega, rfl, rfl, by rw [w1], rfl⟩, .inr ⟨r.1, r.2.1, r.2.2 + j, hv2, by rw [ha.ea, ha.eb]; omega, by rw [ha.ea], rfl, by rw [w2], rfl⟩, ?_⟩
      have := whiv_at hv (f := r.2.2 + j) (by omega)
      rw [show (if r.2.2 + j < a.1 then (0 : Int) else 1) = wh by
        rw [← hwh]
        have := hsm _ hin
        by_cases h : r.2.2 < a.1
        · rw [if_pos h, if_pos (this.2 h)]
        · rw [if_neg h, if_neg (fun hh => h (this.1 hh))]] at this
      exact this
    have hpw : (2 : Int) ^ q = ((2 ^ q : Nat) : Int) := pow_nat _
    have hsub : ((tot a.2 + tot b.2 : Nat) : Int) - ((2 ^ q : Nat) : Int) = ((tot r.1.2 + tot r.2.1.2 : Nat) : Int) := by omega
    have hsum : (tot r.1.2 : Int) + (tot r.2.1.2 : Int) = ((tot r.1.2 + tot r.2.1.2 : Nat) : Int) := by omega
    have hx1 : tot r.1.2 + tot r.2.1.2 ≤ 40000 := by omega
    have hx2 : tot a.2 + tot b.2 ≤ 40000 := by omega
    have hx3 : r.2.2 ≤ 256 := by omega
    generalize tot r.1.2 = u1 at *
    generalize tot r.2.1.2 = u2 at *
    generalize tot a.2 = u3 at *
    generalize tot b.2 = u4 at *
    generalize 2 ^ q = s at *
    repeat' (first
      | (with_reducible first | refine W_seq ?_ | refine W_condT rfl ?_ | refine W_condF rfl ?_ | refine W_tf rfl (fun h => ?_) (fun h => ?_) | refine W_block ?_ | refine endQ_ret ?_ | refine endQ_normal ?_)
      | ((with_reducible first | refine hK _ ?_ | refine hK _ _ ?_); clear hK K)
      | ((first | (with_reducible first | refine ops_cons (fun K hK => ?_) | refine opsd_cons (fun K hK => ?_) | refine ops_nil ?_ | refine fit_i64 (by omega) ?_ | refine fit_u8 (by omega) ?_ | refine fit_u64 (by omega) ?_ | refine fit_u32 (by omega) ?_ | refine fit_any ?_ | refine sh_in (by simp only [IntKind.bits]; omega) ?_) | ((with_reducible refine opsd_nil ?_); refine And.intro (by kernel_rfl) ?_) | with_reducible refine callV_snap ?_ | ((with_reducible refine call_go madS mad_ok ?_); refine ⟨(by first | exact alOk_nil _ | exact alOk_f rfl), _, _, mad_at , ?_⟩) | ((with_reducible refine call_go ModS Mod_ok ?_); refine ⟨(by first | exact alOk_nil _ | exact alOk_f rfl), _, _, Mod_at o 4 (by omega) (by omega), ?_⟩) | ((with_reducible refine call_go ModS Mod_ok ?_); refine ⟨(by first | exact alOk_nil _ | exact alOk_f rfl), _, _, Mod_at p 2 (by omega) (by omega), ?_⟩) | ((with_reducible refine call_go TtS Tt_ok ?_); refine ⟨(by first | exact alOk_nil _ | exact alOk_f rfl), _, _, Tt_at , ?_⟩) | ((with_reducible refine call_go zAllFS zAllF_ok ?_); refine ⟨(by first | exact alOk_nil _ | exact alOk_f rfl), _, _, zAllF_at , ?_⟩) | ((with_reducible refine call_go WhiS Whi_ok ?_); refine ⟨(by first | exact alOk_nil _ | exact alOk_f rfl), _, _, Whi_at , ?_⟩) | ((with_reducible refine call_go CkvS Ckv_ok ?_); refine ⟨(by first | exact alOk_nil _ | exact alOk_f rfl), _, _, Ckv_at , ?_⟩) | ((with_reducible refine call_go awkS awk_ok ?_); refine ⟨(by first | exact alOk_nil _ | exact alOk_f rfl), _, _, awk_at , ?_⟩) | (with_reducible first | refine idx_map (by omega) ?_ | refine W_reg lv8ZnL ?_ | refine W_drw lv8ZnL (by kernel_rfl) ?_ | refine W_skip ?_ | refine W_exit ?_ | refine W_ret ?_ | refine end_at0 ?_) | (with_reducible refine And.intro (fun h => ?_) (fun h => ?_)) | (with_reducible refine And.intro (by omega) ?_)); (try simp only [go_sem, seval, reduceCtorEq, hq, hP, lv8ZnL, Try.ntmps8, Try.results8, stpS]))
      | fail)
    refine W_loop (fun j : Nat => ⟨[(7, .ptr 0 0), (10, iv q), (12, iv ((u3 + u4 : Nat) : Int)), (14, .ptr 1 0), (15, iv r.2.2), (17, iv wh), (18, iv ((r.2.2 + j : Nat) : Int))], [some (.box 24 [iv a.1, .d (.sl [[.int .i64 (a.1 : Int), .sl (a.2.map encN)], [.int .i64 (b.1 : Int), .sl (b.2.map encN)]])]), some (.box 24 [iv a.1, .d (.sl [[.int .i64 (r.1.1 : Int), .sl (r.1.2.map encN)], [.int .i64 (r.2.1.1 : Int), .sl (r.2.1.2.map encN)]])])]⟩) (fun j => j ≤ s) (fun j => s - j) 0 (Nat.zero_le _) [1, 2] ?_ ?_
    · simp [go_sem]
    intro j hj
    by_cases hjs : j < s
    · have hkk : ((r.2.2 + j : Nat) : Int) < (r.2.2 : Int) + (s : Int) := by omega
      have hnx : ((r.2.2 + j : Nat) : Int) + 1 = ((r.2.2 + (j + 1) : Nat) : Int) := by omega
      obtain ⟨Iz_at, Izx_at, Whj_at⟩ := hloop j hjs
      repeat' (first
        | (with_reducible first | refine W_seq ?_ | refine W_condT rfl ?_ | refine W_condF rfl ?_ | refine W_tf rfl (fun h => ?_) (fun h => ?_) | refine W_block ?_ | refine endQ_ret ?_ | refine endQ_normal ?_)
        | ((with_reducible first | refine hK _ ?_ | refine hK _ _ ?_); clear hK K)
        | ((first | (with_reducible first | refine ops_cons (fun K hK => ?_) | refine opsd_cons (fun K hK => ?_) | refine ops_nil ?_ | refine fit_i64 (by omega) ?_ | refine fit_u8 (by omega) ?_ | refine fit_u64 (by omega) ?_ | refine fit_u32 (by omega) ?_ | refine fit_any ?_ | refine sh_in (by simp only [IntKind.bits]; omega) ?_) | ((with_reducible refine opsd_nil ?_); refine And.intro (by kernel_rfl) ?_) | with_reducible refine callV_snap ?_ | ((with_reducible refine call_go IzS Iz_ok ?_); refine ⟨(by first | exact alOk_nil _ | exact alOk_f rfl), _, _, Iz_at , ?_⟩) | ((with_reducible refine call_go IzxS Izx_ok ?_); refine ⟨(by first | exact alOk_nil _ | exact alOk_f rfl), _, _, Izx_at , ?_⟩) | ((with_reducible refine call_go WhjS Whj_ok ?_); refine ⟨(by first | exact alOk_nil _ | exact alOk_f rfl), _, _, Whj_at , ?_⟩) | (with_reducible first | refine idx_map (by omega) ?_ | refine W_reg lv8ZnL ?_ | refine W_drw lv8ZnL (by kernel_rfl) ?_ | refine W_skip ?_ | refine W_exit ?_ | refine W_ret ?_ | refine end_at0 ?_) | (with_reducible refine And.intro (fun h => ?_) (fun h => ?_)) | (with_reducible refine And.intro (by omega) ?_)); (try simp only [go_sem, seval, reduceCtorEq, Int.toNat_natCast, Int.one_mul, hpw, hkk, hnx, lv8ZnL, Try.ntmps8, Try.results8, stpS]))
        | fail)
      refine ⟨j + 1, [0, 1], by omega, by omega, ?_⟩
      simp [go_sem]
    · have hkk : ¬ ((r.2.2 + j : Nat) : Int) < (r.2.2 : Int) + (s : Int) := by omega
      repeat' (first
        | (with_reducible first | refine W_seq ?_ | refine W_condT rfl ?_ | refine W_condF rfl ?_ | refine W_tf rfl (fun h => ?_) (fun h => ?_) | refine W_block ?_ | refine endQ_ret ?_ | refine endQ_normal ?_)
        | ((with_reducible first | refine hK _ ?_ | refine hK _ _ ?_); clear hK K)
        | ((first | (with_reducible first | refine ops_cons (fun K hK => ?_) | refine opsd_cons (fun K hK => ?_) | refine ops_nil ?_ | refine fit_i64 (by omega) ?_ | refine fit_u8 (by omega) ?_ | refine fit_u64 (by omega) ?_ | refine fit_u32 (by omega) ?_ | refine fit_any ?_ | refine sh_in (by simp only [IntKind.bits]; omega) ?_) | ((with_reducible refine opsd_nil ?_); refine And.intro (by kernel_rfl) ?_) | with_reducible refine callV_snap ?_ | ((with_reducible refine call_go TtxS Ttx_ok ?_); refine ⟨(by first | exact alOk_nil _ | exact alOk_f rfl), _, _, Ttx_at , ?_⟩) | ((with_reducible refine call_go TsFS TsF_ok ?_); refine ⟨(by first | exact alOk_nil _ | exact alOk_f rfl), _, _, TsF_at , ?_⟩) | ((with_reducible refine call_go zFrFS zFrF_ok ?_); refine ⟨(by first | exact alOk_nil _ | exact alOk_f rfl), _, _, zFrF_at , ?_⟩) | ((with_reducible refine call_go SmZS SmZ_ok ?_); refine ⟨(by first | exact alOk_nil _ | exact alOk_f rfl), _, _, SmZ_at , ?_⟩) | ((with_reducible refine call_go awkS awk_ok ?_); refine ⟨(by first | exact alOk_nil _ | exact alOk_f rfl), _, _, awk_at , ?_⟩) | (with_reducible first | refine idx_map (by omega) ?_ | refine W_reg lv8ZnL ?_ | refine W_drw lv8ZnL (by kernel_rfl) ?_ | refine W_skip ?_ | refine W_exit ?_ | refine W_ret ?_ | refine end_at0 ?_) | (with_reducible refine And.intro (fun h => ?_) (fun h => ?_)) | (with_reducible refine And.intro (by omega) ?_)); (try simp only [go_sem, seval, reduceCtorEq, Int.toNat_natCast, Int.one_mul, hpw, hkk, hsub, hsum, lv8ZnL, Try.ntmps8, Try.results8, stpS]))
        | fail)
end Go.Proofs.Ytacfipmigkbncaa
