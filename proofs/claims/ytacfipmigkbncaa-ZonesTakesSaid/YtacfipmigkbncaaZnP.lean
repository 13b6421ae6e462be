/- The specification's with, Alloc, Free; by the engine. -/
import Derived.Test.YtacfipmigkbncaaZnI
import Derived.Test.YtacfipmigkbncaaEngZ
namespace Go.Proofs.Ytacfipmigkbncaa
open Go.RowKit
set_option maxRecDepth 100000
set_option linter.unusedSimpArgs false
set_option linter.unusedVariables false

abbrev lv15ZnP : List (Nat × List Nat) := [(0, [1, 2, 3, 6]), (1, [1, 2, 3, 6, 9]), (2, [1, 2, 3, 6, 9, 18]), (3, [6, 7, 8]), (4, [1, 2, 3, 6, 34]), (5, [6, 7, 8]), (6, [1, 3, 6, 39, 40, 41]), (7, [1, 3, 6, 39, 40, 41, 42]), (8, [1, 3, 6, 11, 39, 40, 41]), (9, [1, 3, 6, 11, 12, 13, 14, 39, 40, 41]), (10, [1, 3, 6, 11, 12, 13, 39, 40, 41, 57]), (11, [6, 7, 8]), (12, [1, 3, 6, 39, 40, 41]), (13, [6, 7, 8])]
abbrev lv43ZnP : List (Nat × List Nat) := [(0, [1, 3, 5, 6]), (1, [1, 3, 5, 6, 7]), (2, [1, 3, 5, 6, 7, 8]), (3, [1, 3, 5, 6, 7, 8, 14]), (4, [1, 3, 5, 6, 7, 8]), (5, [1, 3, 5, 6, 7, 8, 9]), (6, [1, 3, 5, 6, 7, 8, 9, 24]), (7, [1, 3, 5, 6, 7, 8, 9]), (8, [1, 3, 5, 6, 7, 8]), (9, [6])]
def rwithS : Spec := { al := true, rel := fun args ins res outs => ∃ (low : Int) (a b c a' b' : Zn) (k : Int), a.2.length ≤ 1000000 ∧ b.2.length ≤ 1000000 ∧ c.2.length ≤ 1000000 ∧ args = [zzn low a b, iv k, .agg [iv c.1, dN c.2]] ∧ ins = [] ∧ res = .agg [iv low, .row 0 2 0 2] ∧
  (k = 0 ∧ a' = c ∧ b' = b ∨ k = 1 ∧ a' = a ∧ b' = c ∨ k = -1 ∧ a' = a ∧ b' = b) ∧ outs = [.rows 59 2 [[.int .i64 (a'.1 : Int), .sl (a'.2.map encN)], [.int .i64 (b'.1 : Int), .sl (b'.2.map encN)]]] }
set_option maxHeartbeats 4000000 in
theorem rwith_ok : Ok Try.prog 43 rwithS := by
  refine fn_ok rwithS Try.func43 rfl rfl ?_
  rintro args ins res outs ⟨low, a, b, c, a', b', k, ha, hb, hc, rfl, rfl, rfl, h, rfl⟩
  refine ⟨by simp [Try.ntmps43], fun w0 V Bo mu0 => ?_⟩
  have h9 : ∀ m : List Bl, m.length ≤ 1000000 → (m.map encN).length ≤ 1000000000 := fun m h => by simp; omega
  rcases h with ⟨rfl, rfl, rfl⟩ | ⟨rfl, rfl, rfl⟩ | ⟨rfl, rfl, rfl⟩
  · skip
    repeat' (first
      | (with_reducible first | refine W_seq ?_ | refine W_condT rfl ?_ | refine W_condF rfl ?_ | refine W_tf rfl (fun h => ?_) (fun h => ?_) | refine W_block ?_ | refine endQ_ret ?_ | refine endQ_normal ?_)
      | ((with_reducible first | refine hK _ ?_ | refine hK _ _ ?_); clear hK K)
      | (with_reducible refine W_rounds 3 ?_)
      | (with_reducible refine Wn_succ ?_)
      | ((with_reducible refine W_drwX lv43ZnP (by kernel_rfl) ?_); (try simp only [go_sem, seval, reduceCtorEq]))
      | ((with_reducible refine opsx_nil ?_); (refine And.intro (by kernel_rfl) ?_); (try simp only [go_sem, seval, reduceCtorEq, lv43ZnP]))
      | ((refine opsx_ext rfl (fun K hK => ?_)); (refine ext_build0 (e := 87) rfl ?_ ?_ ?_ ?_ ?_ ?_) <;> (try simp only [go_sem, seval, reduceCtorEq]))
      | ((refine opsx_ext rfl (fun K hK => ?_)); (refine ext_append0 (e := 87) rfl ?_ rfl rfl ?_ ?_ ?_ ?_ ?_ ?_ (encNe.rows _) (h9 _ (by assumption)) ?_) <;> (try simp only [go_sem, seval, reduceCtorEq]))
      | ((refine opsx_cons rfl (fun K hK => ?_)); (try simp only [go_sem, seval, reduceCtorEq]))
      | ((first | (with_reducible first | refine ops_cons (fun K hK => ?_) | refine opsd_cons (fun K hK => ?_) | refine ops_nil ?_ | refine fit_i64 (by omega) ?_ | refine fit_any ?_) | ((with_reducible refine opsd_nil ?_); refine And.intro (by kernel_rfl) ?_) | with_reducible refine callV_snap ?_ | (with_reducible first | refine app_grow ?_ | refine idx_map (by omega) ?_ | refine W_reg lv43ZnP ?_ | refine W_drw lv43ZnP (by kernel_rfl) ?_ | refine W_skip ?_ | refine W_exit ?_ | refine end_at0 ?_) | (with_reducible refine And.intro (fun h => ?_) (fun h => ?_)) | (with_reducible refine And.intro (by omega) ?_)); (try simp only [go_sem, seval, reduceCtorEq, lv43ZnP, Try.ntmps43, Try.results43, rwithS]))
      | fail)
    refine W_ret (endQ_ret (end_at [13] ?_))
    simp [go_sem, Try.results43, rwithS]
  · skip
    repeat' (first
      | (with_reducible first | refine W_seq ?_ | refine W_condT rfl ?_ | refine W_condF rfl ?_ | refine W_tf rfl (fun h => ?_) (fun h => ?_) | refine W_block ?_ | refine endQ_ret ?_ | refine endQ_normal ?_)
      | ((with_reducible first | refine hK _ ?_ | refine hK _ _ ?_); clear hK K)
      | (with_reducible refine W_rounds 3 ?_)
      | (with_reducible refine Wn_succ ?_)
      | ((with_reducible refine W_drwX lv43ZnP (by kernel_rfl) ?_); (try simp only [go_sem, seval, reduceCtorEq]))
      | ((with_reducible refine opsx_nil ?_); (refine And.intro (by kernel_rfl) ?_); (try simp only [go_sem, seval, reduceCtorEq, lv43ZnP]))
      | ((refine opsx_ext rfl (fun K hK => ?_)); (refine ext_build0 (e := 87) rfl ?_ ?_ ?_ ?_ ?_ ?_) <;> (try simp only [go_sem, seval, reduceCtorEq]))
      | ((refine opsx_ext rfl (fun K hK => ?_)); (refine ext_append0 (e := 87) rfl ?_ rfl rfl ?_ ?_ ?_ ?_ ?_ ?_ (encNe.rows _) (h9 _ (by assumption)) ?_) <;> (try simp only [go_sem, seval, reduceCtorEq]))
      | ((refine opsx_cons rfl (fun K hK => ?_)); (try simp only [go_sem, seval, reduceCtorEq]))
      | ((first | (with_reducible first | refine ops_cons (fun K hK => ?_) | refine opsd_cons (fun K hK => ?_) | refine ops_nil ?_ | refine fit_i64 (by omega) ?_ | refine fit_any ?_) | ((with_reducible refine opsd_nil ?_); refine And.intro (by kernel_rfl) ?_) | with_reducible refine callV_snap ?_ | (with_reducible first | refine app_grow ?_ | refine idx_map (by omega) ?_ | refine W_reg lv43ZnP ?_ | refine W_drw lv43ZnP (by kernel_rfl) ?_ | refine W_skip ?_ | refine W_exit ?_ | refine end_at0 ?_) | (with_reducible refine And.intro (fun h => ?_) (fun h => ?_)) | (with_reducible refine And.intro (by omega) ?_)); (try simp only [go_sem, seval, reduceCtorEq, lv43ZnP, Try.ntmps43, Try.results43, rwithS]))
      | fail)
    refine W_ret (endQ_ret (end_at [13] ?_))
    simp [go_sem, Try.results43, rwithS]
  · skip
    repeat' (first
      | (with_reducible first | refine W_seq ?_ | refine W_condT rfl ?_ | refine W_condF rfl ?_ | refine W_tf rfl (fun h => ?_) (fun h => ?_) | refine W_block ?_ | refine endQ_ret ?_ | refine endQ_normal ?_)
      | ((with_reducible first | refine hK _ ?_ | refine hK _ _ ?_); clear hK K)
      | (with_reducible refine W_rounds 3 ?_)
      | (with_reducible refine Wn_succ ?_)
      | ((with_reducible refine W_drwX lv43ZnP (by kernel_rfl) ?_); (try simp only [go_sem, seval, reduceCtorEq]))
      | ((with_reducible refine opsx_nil ?_); (refine And.intro (by kernel_rfl) ?_); (try simp only [go_sem, seval, reduceCtorEq, lv43ZnP]))
      | ((refine opsx_ext rfl (fun K hK => ?_)); (refine ext_build0 (e := 87) rfl ?_ ?_ ?_ ?_ ?_ ?_) <;> (try simp only [go_sem, seval, reduceCtorEq]))
      | ((refine opsx_ext rfl (fun K hK => ?_)); (refine ext_append0 (e := 87) rfl ?_ rfl rfl ?_ ?_ ?_ ?_ ?_ ?_ (encNe.rows _) (h9 _ (by assumption)) ?_) <;> (try simp only [go_sem, seval, reduceCtorEq]))
      | ((refine opsx_cons rfl (fun K hK => ?_)); (try simp only [go_sem, seval, reduceCtorEq]))
      | ((first | (with_reducible first | refine ops_cons (fun K hK => ?_) | refine opsd_cons (fun K hK => ?_) | refine ops_nil ?_ | refine fit_i64 (by omega) ?_ | refine fit_any ?_) | ((with_reducible refine opsd_nil ?_); refine And.intro (by kernel_rfl) ?_) | with_reducible refine callV_snap ?_ | (with_reducible first | refine app_grow ?_ | refine idx_map (by omega) ?_ | refine W_reg lv43ZnP ?_ | refine W_drw lv43ZnP (by kernel_rfl) ?_ | refine W_skip ?_ | refine W_exit ?_ | refine end_at0 ?_) | (with_reducible refine And.intro (fun h => ?_) (fun h => ?_)) | (with_reducible refine And.intro (by omega) ?_)); (try simp only [go_sem, seval, reduceCtorEq, lv43ZnP, Try.ntmps43, Try.results43, rwithS]))
      | fail)
    refine W_ret (endQ_ret (end_at [13] ?_))
    simp [go_sem, Try.results43, rwithS]

abbrev rwAFS : Spec := frzS rwithS
abbrev rwBFS : Spec := frzS rwithS
abbrev rwCFS : Spec := frzS rwithS
theorem rwAF_ok : Ok Try.prog 43 rwAFS := frzS_ok rwith_ok
theorem rwBF_ok : Ok Try.prog 43 rwBFS := frzS_ok rwith_ok
theorem rwCF_ok : Ok Try.prog 43 rwCFS := frzS_ok rwith_ok
theorem rwAF_at (low : Int) (a b c : Zn) (ha : a.2.length ≤ 1000000) (hb : b.2.length ≤ 1000000) (hc : c.2.length ≤ 1000000) : rwAFS.rel [zzn low a b, iv 0, .agg [iv c.1, dN c.2]] [] (zzn low c b) [] := ⟨rfl, rfl, _, _, ⟨low, a, b, c, c, b, 0, ha, hb, hc, rfl, rfl, rfl, .inl ⟨rfl, rfl, rfl⟩, rfl⟩, by simp [frz, frzA, frzL, frz1]⟩
theorem rwBF_at (low : Int) (a b c : Zn) (ha : a.2.length ≤ 1000000) (hb : b.2.length ≤ 1000000) (hc : c.2.length ≤ 1000000) : rwBFS.rel [zzn low a b, iv 1, .agg [iv c.1, dN c.2]] [] (zzn low a c) [] := ⟨rfl, rfl, _, _, ⟨low, a, b, c, a, c, 1, ha, hb, hc, rfl, rfl, rfl, .inr (.inl ⟨rfl, rfl, rfl⟩), rfl⟩, by simp [frz, frzA, frzL, frz1]⟩
theorem rwCF_at (low : Int) (a b : Zn) (ha : a.2.length ≤ 1000000) (hb : b.2.length ≤ 1000000) : rwCFS.rel [zzn low a b, iv (-1), .agg [iv 0, .d (.sl [])]] [] (zzn low a b) [] := ⟨rfl, rfl, _, _, ⟨low, a, b, (0, []), a, b, -1, ha, hb, by decide, rfl, rfl, rfl, .inr (.inr ⟨rfl, rfl, rfl⟩), rfl⟩, by simp [frz, frzA, frzL, frz1]⟩
abbrev rAllocBFS : Spec := rAllocFS
theorem rAllocBF_ok : Ok Try.prog 42 rAllocBFS := rAllocF_ok
def rzAllS : Spec := { al := true, rel := fun args ins res outs => (∃ (low : Int) (zs : List Zo) (o p : Int), zs.length ≤ 1000000 ∧ (∀ z ∈ zs, z.2.length ≤ 1000000) ∧ alcE low zs o p ≠ 0 ∧ args = [zzv low zs, iv o, iv p] ∧ ins = [] ∧ res = .tup [.agg [iv 0, .nil], iv 0, iv (alcE low zs o p)] ∧ outs = []) ∨
  ∃ (a b : Zn) (q : Nat) (p : Int), Vzz a b ∧ q ≤ 6 ∧ (p = 0 ∨ p = 1) ∧ args = [zzn a.1 a b, iv q, iv p] ∧ ins = [] ∧ res = alcR a.1 (alcZ a b q p) ∧ outs = [] }
theorem bld_le6 {N : Nat} {f : Nat → Bool} (h : N ≤ 256) : (bld N f).length ≤ 1000000 := bld_le h
set_option maxHeartbeats 8000000 in
theorem rzAll_ok : Ok Try.prog 15 rzAllS := by
  refine fn_ok rzAllS Try.func15 rfl rfl ?_
  rintro args ins res outs (⟨low, zs, o, p, hl, hz, he, rfl, rfl, rfl, rfl⟩ | ⟨a, b, q, p, hv, hq, hp, rfl, rfl, rfl, rfl⟩)
  all_goals refine ⟨by simp [Try.ntmps15], fun w0 V Bo mu0 => ?_⟩
  · unfold alcE at he ⊢
    by_cases hc : zzchk low zs = 0
    · obtain ⟨a, b, rfl, rfl, hv⟩ := vzz_of hc
      rw [if_neg (by simpa using hc)] at he ⊢
      rw [zz2_eq, zz2_toZ]
      by_cases h1 : (o < 0 ∨ 6 < o) ∨ ¬ (p = 0 ∨ p = 1)
      · rw [if_pos h1]
        by_cases c1 : o < 0
        · skip
          repeat' (first
            | (with_reducible first | refine W_seq ?_ | refine W_condT rfl ?_ | refine W_condF rfl ?_ | refine W_tf rfl (fun h => ?_) (fun h => ?_) | refine W_block ?_ | refine endQ_ret ?_ | refine endQ_normal ?_)
            | ((with_reducible first | refine hK _ ?_ | refine hK _ _ ?_); clear hK K)
            | ((first | (with_reducible first | refine ops_cons (fun K hK => ?_) | refine opsd_cons (fun K hK => ?_) | refine ops_nil ?_ | refine fit_i64 (by omega) ?_ | refine fit_any ?_) | ((with_reducible refine opsd_nil ?_); refine And.intro (by kernel_rfl) ?_) | with_reducible refine callV_snap ?_ | ((with_reducible refine call_go rCkvS rCkv_ok ?_); refine ⟨(by first | exact alOk_nil _ | exact alOk_f rfl), _, _, rCkv_at hv, ?_⟩) | (with_reducible first | refine idx_map (by omega) ?_ | refine W_reg lv15ZnP ?_ | refine W_drw lv15ZnP (by kernel_rfl) ?_ | refine W_skip ?_ | refine W_exit ?_ | refine W_ret ?_ | refine end_at0 ?_) | (with_reducible refine And.intro (fun h => ?_) (fun h => ?_)) | (with_reducible refine And.intro (by omega) ?_)); (try simp only [go_sem, seval, reduceCtorEq, c1, lv15ZnP, Try.ntmps15, Try.results15, rzAllS]))
            | fail)
        · by_cases c2 : 6 < o
          · skip
            repeat' (first
              | (with_reducible first | refine W_seq ?_ | refine W_condT rfl ?_ | refine W_condF rfl ?_ | refine W_tf rfl (fun h => ?_) (fun h => ?_) | refine W_block ?_ | refine endQ_ret ?_ | refine endQ_normal ?_)
              | ((with_reducible first | refine hK _ ?_ | refine hK _ _ ?_); clear hK K)
              | ((first | (with_reducible first | refine ops_cons (fun K hK => ?_) | refine opsd_cons (fun K hK => ?_) | refine ops_nil ?_ | refine fit_i64 (by omega) ?_ | refine fit_any ?_) | ((with_reducible refine opsd_nil ?_); refine And.intro (by kernel_rfl) ?_) | with_reducible refine callV_snap ?_ | ((with_reducible refine call_go rCkvS rCkv_ok ?_); refine ⟨(by first | exact alOk_nil _ | exact alOk_f rfl), _, _, rCkv_at hv, ?_⟩) | (with_reducible first | refine idx_map (by omega) ?_ | refine W_reg lv15ZnP ?_ | refine W_drw lv15ZnP (by kernel_rfl) ?_ | refine W_skip ?_ | refine W_exit ?_ | refine W_ret ?_ | refine end_at0 ?_) | (with_reducible refine And.intro (fun h => ?_) (fun h => ?_)) | (with_reducible refine And.intro (by omega) ?_)); (try simp only [go_sem, seval, reduceCtorEq, c1, c2, lv15ZnP, Try.ntmps15, Try.results15, rzAllS]))
              | fail)
          · by_cases c3 : p < 0
            · skip
              repeat' (first
                | (with_reducible first | refine W_seq ?_ | refine W_condT rfl ?_ | refine W_condF rfl ?_ | refine W_tf rfl (fun h => ?_) (fun h => ?_) | refine W_block ?_ | refine endQ_ret ?_ | refine endQ_normal ?_)
                | ((with_reducible first | refine hK _ ?_ | refine hK _ _ ?_); clear hK K)
                | ((first | (with_reducible first | refine ops_cons (fun K hK => ?_) | refine opsd_cons (fun K hK => ?_) | refine ops_nil ?_ | refine fit_i64 (by omega) ?_ | refine fit_any ?_) | ((with_reducible refine opsd_nil ?_); refine And.intro (by kernel_rfl) ?_) | with_reducible refine callV_snap ?_ | ((with_reducible refine call_go rCkvS rCkv_ok ?_); refine ⟨(by first | exact alOk_nil _ | exact alOk_f rfl), _, _, rCkv_at hv, ?_⟩) | (with_reducible first | refine idx_map (by omega) ?_ | refine W_reg lv15ZnP ?_ | refine W_drw lv15ZnP (by kernel_rfl) ?_ | refine W_skip ?_ | refine W_exit ?_ | refine W_ret ?_ | refine end_at0 ?_) | (with_reducible refine And.intro (fun h => ?_) (fun h => ?_)) | (with_reducible refine And.intro (by omega) ?_)); (try simp only [go_sem, seval, reduceCtorEq, c1, c2, c3, lv15ZnP, Try.ntmps15, Try.results15, rzAllS]))
                | fail)
            · have c4 : 1 < p := by omega
              repeat' (first
                | (with_reducible first | refine W_seq ?_ | refine W_condT rfl ?_ | refine W_condF rfl ?_ | refine W_tf rfl (fun h => ?_) (fun h => ?_) | refine W_block ?_ | refine endQ_ret ?_ | refine endQ_normal ?_)
                | ((with_reducible first | refine hK _ ?_ | refine hK _ _ ?_); clear hK K)
                | ((first | (with_reducible first | refine ops_cons (fun K hK => ?_) | refine opsd_cons (fun K hK => ?_) | refine ops_nil ?_ | refine fit_i64 (by omega) ?_ | refine fit_any ?_) | ((with_reducible refine opsd_nil ?_); refine And.intro (by kernel_rfl) ?_) | with_reducible refine callV_snap ?_ | ((with_reducible refine call_go rCkvS rCkv_ok ?_); refine ⟨(by first | exact alOk_nil _ | exact alOk_f rfl), _, _, rCkv_at hv, ?_⟩) | (with_reducible first | refine idx_map (by omega) ?_ | refine W_reg lv15ZnP ?_ | refine W_drw lv15ZnP (by kernel_rfl) ?_ | refine W_skip ?_ | refine W_exit ?_ | refine W_ret ?_ | refine end_at0 ?_) | (with_reducible refine And.intro (fun h => ?_) (fun h => ?_)) | (with_reducible refine And.intro (by omega) ?_)); (try simp only [go_sem, seval, reduceCtorEq, c1, c2, c3, c4, lv15ZnP, Try.ntmps15, Try.results15, rzAllS]))
                | fail)
      · rw [if_neg h1] at he; exact absurd rfl he
    · rw [if_pos hc] at he ⊢
      repeat' (first
        | (with_reducible first | refine W_seq ?_ | refine W_condT rfl ?_ | refine W_condF rfl ?_ | refine W_tf rfl (fun h => ?_) (fun h => ?_) | refine W_block ?_ | refine endQ_ret ?_ | refine endQ_normal ?_)
        | ((with_reducible first | refine hK _ ?_ | refine hK _ _ ?_); clear hK K)
        | ((first | (with_reducible first | refine ops_cons (fun K hK => ?_) | refine opsd_cons (fun K hK => ?_) | refine ops_nil ?_ | refine fit_i64 (by omega) ?_ | refine fit_any ?_) | ((with_reducible refine opsd_nil ?_); refine And.intro (by kernel_rfl) ?_) | with_reducible refine callV_snap ?_ | ((with_reducible refine call_go rCkzS rCkz_ok ?_); refine ⟨(by first | exact alOk_nil _ | exact alOk_f rfl), _, _, rCkz_at low zs hl hz, ?_⟩) | (with_reducible first | refine idx_map (by omega) ?_ | refine W_reg lv15ZnP ?_ | refine W_drw lv15ZnP (by kernel_rfl) ?_ | refine W_skip ?_ | refine W_exit ?_ | refine W_ret ?_ | refine end_at0 ?_) | (with_reducible refine And.intro (fun h => ?_) (fun h => ?_)) | (with_reducible refine And.intro (by omega) ?_)); (try simp only [go_sem, seval, reduceCtorEq, hc, lv15ZnP, Try.ntmps15, Try.results15, rzAllS]))
        | fail)
  · have ha := hv.l2a
    have hb := hv.l2b
    have hle := hv.le
    have A0 := allZ_at hv.fa hq
    have B0 := allZ_at hv.fb hq
    have m0 : (0 : Int) * (a.1 : Int) = 0 := Int.zero_mul _
    have m1 : (1 : Int) * (a.1 : Int) = a.1 := Int.one_mul _
    have c1 : ¬ (q : Int) < 0 := by omega
    have c2 : ¬ 6 < (q : Int) := by omega
    cases h1 : bestOf a.2 q with
    | none =>
      rw [h1] at A0
      have rAllocF_at : AllocFS.rel [.agg [iv a.1, dN a.2], iv q] [] (.tup [.agg [iv 0, dN []], iv 0, iv 5]) [] := A0
      cases h2 : bestOf b.2 q with
      | none =>
        rw [h2] at B0
        have rAllocBF_at : AllocFS.rel [.agg [iv b.1, dN b.2], iv q] [] (.tup [.agg [iv 0, dN []], iv 0, iv 5]) [] := B0
        rcases hp with rfl | rfl
        · rw [show alcR a.1 (alcZ a b q 0) = .tup [.agg [iv 0, .nil], iv 0, iv 5] by simp [alcR, alcZ, al1, al2, h1, h2]]
          repeat' (first
            | (with_reducible first | refine W_seq ?_ | refine W_condT rfl ?_ | refine W_condF rfl ?_ | refine W_tf rfl (fun h => ?_) (fun h => ?_) | refine W_block ?_ | refine endQ_ret ?_ | refine endQ_normal ?_)
            | ((with_reducible first | refine hK _ ?_ | refine hK _ _ ?_); clear hK K)
            | (with_reducible refine W_rounds 3 ?_)
            | (with_reducible refine Wn_succ ?_)
            | ((first | (with_reducible first | refine ops_cons (fun K hK => ?_) | refine opsd_cons (fun K hK => ?_) | refine ops_nil ?_ | refine fit_i64 (by omega) ?_ | refine fit_any ?_) | ((with_reducible refine opsd_nil ?_); refine And.intro (by kernel_rfl) ?_) | with_reducible refine callV_snap ?_ | ((with_reducible refine call_go rCkvS rCkv_ok ?_); refine ⟨(by first | exact alOk_nil _ | exact alOk_f rfl), _, _, rCkv_at hv, ?_⟩) | ((with_reducible refine call_go rAllocFS rAllocF_ok ?_); refine ⟨(by first | exact alOk_nil _ | exact alOk_f rfl), _, _, rAllocF_at , ?_⟩) | ((with_reducible refine call_go rAllocBFS rAllocBF_ok ?_); refine ⟨(by first | exact alOk_nil _ | exact alOk_f rfl), _, _, rAllocBF_at , ?_⟩) | (with_reducible first | refine idx_map (by omega) ?_ | refine W_reg lv15ZnP ?_ | refine W_drw lv15ZnP (by kernel_rfl) ?_ | refine W_skip ?_ | refine W_exit ?_ | refine W_ret ?_ | refine end_at0 ?_) | (with_reducible refine And.intro (fun h => ?_) (fun h => ?_)) | (with_reducible refine And.intro (by omega) ?_)); (try simp only [go_sem, seval, reduceCtorEq, c1, c2, lv15ZnP, Try.ntmps15, Try.results15, rzAllS]))
            | fail)
        · rw [show alcR a.1 (alcZ a b q 1) = .tup [.agg [iv 0, .nil], iv 0, iv 5] by simp [alcR, alcZ, al1, al2, h1, h2]]
          repeat' (first
            | (with_reducible first | refine W_seq ?_ | refine W_condT rfl ?_ | refine W_condF rfl ?_ | refine W_tf rfl (fun h => ?_) (fun h => ?_) | refine W_block ?_ | refine endQ_ret ?_ | refine endQ_normal ?_)
            | ((with_reducible first | refine hK _ ?_ | refine hK _ _ ?_); clear hK K)
            | (with_reducible refine W_rounds 3 ?_)
            | (with_reducible refine Wn_succ ?_)
            | ((first | (with_reducible first | refine ops_cons (fun K hK => ?_) | refine opsd_cons (fun K hK => ?_) | refine ops_nil ?_ | refine fit_i64 (by omega) ?_ | refine fit_any ?_) | ((with_reducible refine opsd_nil ?_); refine And.intro (by kernel_rfl) ?_) | with_reducible refine callV_snap ?_ | ((with_reducible refine call_go rCkvS rCkv_ok ?_); refine ⟨(by first | exact alOk_nil _ | exact alOk_f rfl), _, _, rCkv_at hv, ?_⟩) | ((with_reducible refine call_go rAllocFS rAllocF_ok ?_); refine ⟨(by first | exact alOk_nil _ | exact alOk_f rfl), _, _, rAllocF_at , ?_⟩) | ((with_reducible refine call_go rAllocBFS rAllocBF_ok ?_); refine ⟨(by first | exact alOk_nil _ | exact alOk_f rfl), _, _, rAllocBF_at , ?_⟩) | (with_reducible first | refine idx_map (by omega) ?_ | refine W_reg lv15ZnP ?_ | refine W_drw lv15ZnP (by kernel_rfl) ?_ | refine W_skip ?_ | refine W_exit ?_ | refine W_ret ?_ | refine end_at0 ?_) | (with_reducible refine And.intro (fun h => ?_) (fun h => ?_)) | (with_reducible refine And.intro (by omega) ?_)); (try simp only [go_sem, seval, reduceCtorEq, c1, c2, lv15ZnP, Try.ntmps15, Try.results15, rzAllS]))
            | fail)
      | some d =>
        rw [h2] at B0
        have rAllocBF_at : AllocFS.rel [.agg [iv b.1, dN b.2], iv q] [] (.tup [.agg [iv b.1, dN (bld b.1 (frA b.2 d.1 q))], iv d.1, iv 0]) [] := B0
        have hd2 : a.1 + d.1 ≤ 256 := by
          have hd := (hv.fb.v.ok d (bestOf_some h2).mem).2.1
          have := two_pos d.2
          omega
        have hs : (d.1 : Int) + (a.1 : Int) = ((a.1 + d.1 : Nat) : Int) := by omega
        have hbl : (bld b.1 (frA b.2 d.1 q)).length ≤ 1000000 := bld_le hv.fb.v.n
        rcases hp with rfl | rfl
        · rw [show alcR a.1 (alcZ a b q 0) = .tup [zzn a.1 a (b.1, bld b.1 (frA b.2 d.1 q)), iv ((a.1 + d.1 : Nat) : Int), iv 0] by simp [alcR, alcZ, al1, al2, h1, h2]]
          repeat' (first
            | (with_reducible first | refine W_seq ?_ | refine W_condT rfl ?_ | refine W_condF rfl ?_ | refine W_tf rfl (fun h => ?_) (fun h => ?_) | refine W_block ?_ | refine endQ_ret ?_ | refine endQ_normal ?_)
            | ((with_reducible first | refine hK _ ?_ | refine hK _ _ ?_); clear hK K)
            | (with_reducible refine W_rounds 3 ?_)
            | (with_reducible refine Wn_succ ?_)
            | ((first | (with_reducible first | refine ops_cons (fun K hK => ?_) | refine opsd_cons (fun K hK => ?_) | refine ops_nil ?_ | refine fit_i64 (by omega) ?_ | refine fit_any ?_) | ((with_reducible refine opsd_nil ?_); refine And.intro (by kernel_rfl) ?_) | with_reducible refine callV_snap ?_ | ((with_reducible refine call_go rCkvS rCkv_ok ?_); refine ⟨(by first | exact alOk_nil _ | exact alOk_f rfl), _, _, rCkv_at hv, ?_⟩) | ((with_reducible refine call_go rAllocFS rAllocF_ok ?_); refine ⟨(by first | exact alOk_nil _ | exact alOk_f rfl), _, _, rAllocF_at , ?_⟩) | ((with_reducible refine call_go rAllocBFS rAllocBF_ok ?_); refine ⟨(by first | exact alOk_nil _ | exact alOk_f rfl), _, _, rAllocBF_at , ?_⟩) | ((with_reducible refine call_go rwBFS rwBF_ok ?_); refine ⟨(by first | exact alOk_nil _ | exact alOk_f rfl), _, _, rwBF_at a.1 a b (b.1, bld b.1 (frA b.2 d.1 q)) ha hb hbl, ?_⟩) | (with_reducible first | refine idx_map (by omega) ?_ | refine W_reg lv15ZnP ?_ | refine W_drw lv15ZnP (by kernel_rfl) ?_ | refine W_skip ?_ | refine W_exit ?_ | refine W_ret ?_ | refine end_at0 ?_) | (with_reducible refine And.intro (fun h => ?_) (fun h => ?_)) | (with_reducible refine And.intro (by omega) ?_)); (try simp only [go_sem, seval, reduceCtorEq, c1, c2, m1, hs, lv15ZnP, Try.ntmps15, Try.results15, rzAllS]))
            | fail)
        · rw [show alcR a.1 (alcZ a b q 1) = .tup [zzn a.1 a (b.1, bld b.1 (frA b.2 d.1 q)), iv ((a.1 + d.1 : Nat) : Int), iv 0] by simp [alcR, alcZ, al1, al2, h1, h2]]
          repeat' (first
            | (with_reducible first | refine W_seq ?_ | refine W_condT rfl ?_ | refine W_condF rfl ?_ | refine W_tf rfl (fun h => ?_) (fun h => ?_) | refine W_block ?_ | refine endQ_ret ?_ | refine endQ_normal ?_)
            | ((with_reducible first | refine hK _ ?_ | refine hK _ _ ?_); clear hK K)
            | (with_reducible refine W_rounds 3 ?_)
            | (with_reducible refine Wn_succ ?_)
            | ((first | (with_reducible first | refine ops_cons (fun K hK => ?_) | refine opsd_cons (fun K hK => ?_) | refine ops_nil ?_ | refine fit_i64 (by omega) ?_ | refine fit_any ?_) | ((with_reducible refine opsd_nil ?_); refine And.intro (by kernel_rfl) ?_) | with_reducible refine callV_snap ?_ | ((with_reducible refine call_go rCkvS rCkv_ok ?_); refine ⟨(by first | exact alOk_nil _ | exact alOk_f rfl), _, _, rCkv_at hv, ?_⟩) | ((with_reducible refine call_go rAllocFS rAllocF_ok ?_); refine ⟨(by first | exact alOk_nil _ | exact alOk_f rfl), _, _, rAllocF_at , ?_⟩) | ((with_reducible refine call_go rAllocBFS rAllocBF_ok ?_); refine ⟨(by first | exact alOk_nil _ | exact alOk_f rfl), _, _, rAllocBF_at , ?_⟩) | ((with_reducible refine call_go rwBFS rwBF_ok ?_); refine ⟨(by first | exact alOk_nil _ | exact alOk_f rfl), _, _, rwBF_at a.1 a b (b.1, bld b.1 (frA b.2 d.1 q)) ha hb hbl, ?_⟩) | (with_reducible first | refine idx_map (by omega) ?_ | refine W_reg lv15ZnP ?_ | refine W_drw lv15ZnP (by kernel_rfl) ?_ | refine W_skip ?_ | refine W_exit ?_ | refine W_ret ?_ | refine end_at0 ?_) | (with_reducible refine And.intro (fun h => ?_) (fun h => ?_)) | (with_reducible refine And.intro (by omega) ?_)); (try simp only [go_sem, seval, reduceCtorEq, c1, c2, m1, hs, lv15ZnP, Try.ntmps15, Try.results15, rzAllS]))
            | fail)
    | some c =>
      rw [h1] at A0
      have rAllocF_at : AllocFS.rel [.agg [iv a.1, dN a.2], iv q] [] (.tup [.agg [iv a.1, dN (bld a.1 (frA a.2 c.1 q))], iv c.1, iv 0]) [] := A0
      have hc2 : c.1 ≤ 256 := by
        have hc := (hv.fa.v.ok c (bestOf_some h1).mem).2.1
        have := two_pos c.2
        omega
      have hal : (bld a.1 (frA a.2 c.1 q)).length ≤ 1000000 := bld_le hv.fa.v.n
      rcases hp with rfl | rfl
      · rw [show alcR a.1 (alcZ a b q 0) = .tup [zzn a.1 (a.1, bld a.1 (frA a.2 c.1 q)) b, iv (c.1 : Int), iv 0] by simp [alcR, alcZ, al1, al2, h1]]
        repeat' (first
          | (with_reducible first | refine W_seq ?_ | refine W_condT rfl ?_ | refine W_condF rfl ?_ | refine W_tf rfl (fun h => ?_) (fun h => ?_) | refine W_block ?_ | refine endQ_ret ?_ | refine endQ_normal ?_)
          | ((with_reducible first | refine hK _ ?_ | refine hK _ _ ?_); clear hK K)
          | (with_reducible refine W_rounds 3 ?_)
          | (with_reducible refine Wn_succ ?_)
          | ((first | (with_reducible first | refine ops_cons (fun K hK => ?_) | refine opsd_cons (fun K hK => ?_) | refine ops_nil ?_ | refine fit_i64 (by omega) ?_ | refine fit_any ?_) | ((with_reducible refine opsd_nil ?_); refine And.intro (by kernel_rfl) ?_) | with_reducible refine callV_snap ?_ | ((with_reducible refine call_go rCkvS rCkv_ok ?_); refine ⟨(by first | exact alOk_nil _ | exact alOk_f rfl), _, _, rCkv_at hv, ?_⟩) | ((with_reducible refine call_go rAllocFS rAllocF_ok ?_); refine ⟨(by first | exact alOk_nil _ | exact alOk_f rfl), _, _, rAllocF_at , ?_⟩) | ((with_reducible refine call_go rwAFS rwAF_ok ?_); refine ⟨(by first | exact alOk_nil _ | exact alOk_f rfl), _, _, rwAF_at a.1 a b (a.1, bld a.1 (frA a.2 c.1 q)) ha hb hal, ?_⟩) | (with_reducible first | refine idx_map (by omega) ?_ | refine W_reg lv15ZnP ?_ | refine W_drw lv15ZnP (by kernel_rfl) ?_ | refine W_skip ?_ | refine W_exit ?_ | refine W_ret ?_ | refine end_at0 ?_) | (with_reducible refine And.intro (fun h => ?_) (fun h => ?_)) | (with_reducible refine And.intro (by omega) ?_)); (try simp only [go_sem, seval, reduceCtorEq, c1, c2, m0, Int.add_zero, lv15ZnP, Try.ntmps15, Try.results15, rzAllS]))
          | fail)
      · cases h2 : bestOf b.2 q with
        | none =>
          rw [h2] at B0
          have rAllocBF_at : AllocFS.rel [.agg [iv b.1, dN b.2], iv q] [] (.tup [.agg [iv 0, dN []], iv 0, iv 5]) [] := B0
          rw [show alcR a.1 (alcZ a b q 1) = .tup [zzn a.1 (a.1, bld a.1 (frA a.2 c.1 q)) b, iv (c.1 : Int), iv 0] by simp [alcR, alcZ, al1, al2, h1, h2]]
          repeat' (first
            | (with_reducible first | refine W_seq ?_ | refine W_condT rfl ?_ | refine W_condF rfl ?_ | refine W_tf rfl (fun h => ?_) (fun h => ?_) | refine W_block ?_ | refine endQ_ret ?_ | refine endQ_normal ?_)
            | ((with_reducible first | refine hK _ ?_ | refine hK _ _ ?_); clear hK K)
            | (with_reducible refine W_rounds 3 ?_)
            | (with_reducible refine Wn_succ ?_)
            | ((first | (with_reducible first | refine ops_cons (fun K hK => ?_) | refine opsd_cons (fun K hK => ?_) | refine ops_nil ?_ | refine fit_i64 (by omega) ?_ | refine fit_any ?_) | ((with_reducible refine opsd_nil ?_); refine And.intro (by kernel_rfl) ?_) | with_reducible refine callV_snap ?_ | ((with_reducible refine call_go rCkvS rCkv_ok ?_); refine ⟨(by first | exact alOk_nil _ | exact alOk_f rfl), _, _, rCkv_at hv, ?_⟩) | ((with_reducible refine call_go rAllocFS rAllocF_ok ?_); refine ⟨(by first | exact alOk_nil _ | exact alOk_f rfl), _, _, rAllocF_at , ?_⟩) | ((with_reducible refine call_go rAllocBFS rAllocBF_ok ?_); refine ⟨(by first | exact alOk_nil _ | exact alOk_f rfl), _, _, rAllocBF_at , ?_⟩) | ((with_reducible refine call_go rwAFS rwAF_ok ?_); refine ⟨(by first | exact alOk_nil _ | exact alOk_f rfl), _, _, rwAF_at a.1 a b (a.1, bld a.1 (frA a.2 c.1 q)) ha hb hal, ?_⟩) | (with_reducible first | refine idx_map (by omega) ?_ | refine W_reg lv15ZnP ?_ | refine W_drw lv15ZnP (by kernel_rfl) ?_ | refine W_skip ?_ | refine W_exit ?_ | refine W_ret ?_ | refine end_at0 ?_) | (with_reducible refine And.intro (fun h => ?_) (fun h => ?_)) | (with_reducible refine And.intro (by omega) ?_)); (try simp only [go_sem, seval, reduceCtorEq, c1, c2, m0, Int.add_zero, lv15ZnP, Try.ntmps15, Try.results15, rzAllS]))
            | fail)
        | some d =>
          rw [h2] at B0
          have rAllocBF_at : AllocFS.rel [.agg [iv b.1, dN b.2], iv q] [] (.tup [.agg [iv b.1, dN (bld b.1 (frA b.2 d.1 q))], iv d.1, iv 0]) [] := B0
          have hd2 : a.1 + d.1 ≤ 256 := by
            have hd := (hv.fb.v.ok d (bestOf_some h2).mem).2.1
            have := two_pos d.2
            omega
          have hs : (d.1 : Int) + (a.1 : Int) = ((a.1 + d.1 : Nat) : Int) := by omega
          have hbl : (bld b.1 (frA b.2 d.1 q)).length ≤ 1000000 := bld_le hv.fb.v.n
          rw [show alcR a.1 (alcZ a b q 1) = .tup [zzn a.1 a (b.1, bld b.1 (frA b.2 d.1 q)), iv ((a.1 + d.1 : Nat) : Int), iv 0] by simp [alcR, alcZ, al1, al2, h1, h2]]
          repeat' (first
            | (with_reducible first | refine W_seq ?_ | refine W_condT rfl ?_ | refine W_condF rfl ?_ | refine W_tf rfl (fun h => ?_) (fun h => ?_) | refine W_block ?_ | refine endQ_ret ?_ | refine endQ_normal ?_)
            | ((with_reducible first | refine hK _ ?_ | refine hK _ _ ?_); clear hK K)
            | (with_reducible refine W_rounds 3 ?_)
            | (with_reducible refine Wn_succ ?_)
            | ((first | (with_reducible first | refine ops_cons (fun K hK => ?_) | refine opsd_cons (fun K hK => ?_) | refine ops_nil ?_ | refine fit_i64 (by omega) ?_ | refine fit_any ?_) | ((with_reducible refine opsd_nil ?_); refine And.intro (by kernel_rfl) ?_) | with_reducible refine callV_snap ?_ | ((with_reducible refine call_go rCkvS rCkv_ok ?_); refine ⟨(by first | exact alOk_nil _ | exact alOk_f rfl), _, _, rCkv_at hv, ?_⟩) | ((with_reducible refine call_go rAllocBFS rAllocBF_ok ?_); refine ⟨(by first | exact alOk_nil _ | exact alOk_f rfl), _, _, rAllocBF_at , ?_⟩) | ((with_reducible refine call_go rwBFS rwBF_ok ?_); refine ⟨(by first | exact alOk_nil _ | exact alOk_f rfl), _, _, rwBF_at a.1 a b (b.1, bld b.1 (frA b.2 d.1 q)) ha hb hbl, ?_⟩) | (with_reducible first | refine idx_map (by omega) ?_ | refine W_reg lv15ZnP ?_ | refine W_drw lv15ZnP (by kernel_rfl) ?_ | refine W_skip ?_ | refine W_exit ?_ | refine W_ret ?_ | refine end_at0 ?_) | (with_reducible refine And.intro (fun h => ?_) (fun h => ?_)) | (with_reducible refine And.intro (by omega) ?_)); (try simp only [go_sem, seval, reduceCtorEq, c1, c2, m1, hs, lv15ZnP, Try.ntmps15, Try.results15, rzAllS]))
            | fail)
abbrev rzAllFS : Spec := frzS rzAllS
theorem rzAllF_ok : Ok Try.prog 15 rzAllFS := frzS_ok rzAll_ok
theorem rzall_at {a b : Zn} {q : Nat} {p : Int} (hv : Vzz a b) (hq : q ≤ 6) (hp : p = 0 ∨ p = 1) : rzAllFS.rel [zzn a.1 a b, iv q, iv p] [] (alcF a.1 (alcZ a b q p)) [] := ⟨rfl, rfl, _, _, .inr ⟨a, b, q, p, hv, hq, hp, rfl, rfl, rfl, rfl⟩, alc_frz _ _⟩
end Go.Proofs.Ytacfipmigkbncaa
