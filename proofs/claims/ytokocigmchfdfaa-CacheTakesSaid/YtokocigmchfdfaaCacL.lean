/- Caches made of numbers; CacheBack, by the engine. -/
import Derived.Test.YtokocigmchfdfaaCacJ
import Derived.Test.YtokocigmchfdfaaKitA
namespace Go.Proofs.Ytokocigmchfdfaa
open Go.RowKit
set_option maxRecDepth 100000
set_option linter.unusedSimpArgs false
set_option linter.unusedVariables false

def ModS : Spec := { rel := fun args ins res outs => ∃ n k : Int, 1 ≤ k ∧ k ≤ 9223372036854775807 ∧ args = [iv n, iv k] ∧ ins = [] ∧ res = iv (n % k) ∧ outs = [] }
theorem Mod_at (n k : Int) (h1 : 1 ≤ k) (h2 : k ≤ 9223372036854775807) : ModS.rel [iv n, iv k] [] (iv (n % k)) [] := ⟨n, k, h1, h2, rfl, rfl, rfl, rfl⟩
theorem Mod_ok : Ok Try.prog 30 ModS := by
  refine ok_struct ⟨_, Try.func30, rfl, rfl⟩ ?_
  rintro args ins res outs ⟨n, k, h1, h2, rfl, rfl, rfl, rfl⟩
  exact ⟨rfl, rfl, rfl, rfl, fun w => (Mod_any n k w h1 h2).mono fun e w' ⟨h1, h2⟩ => ⟨h1, h2 ▸ Below.refl _ _⟩⟩

def mkU (m : Int) : Int := if m / 1280 % 4 = 0 ∨ m / 5 % 256 = 0 then 255 else m / 5 % 256
def mkGo : Int → List Int → List (Int × Int)
  | _, [] => []
  | fr, n :: t => (fr + 1 + n % 1048576 % 5, mkU (n % 1048576)) :: mkGo (fr + 1 + n % 1048576 % 5) t
def mkC (nums : List Int) : List (Int × Int) := mkGo 0 (nums.take 12)
theorem mkU_bd (m : Int) : 1 ≤ mkU m ∧ mkU m ≤ 255 := by
  unfold mkU
  split
  · omega
  · omega
theorem mkGo_len : ∀ (l : List Int) (fr : Int), (mkGo fr l).length = l.length
  | [], _ => rfl
  | n :: t, fr => by simp [mkGo, mkGo_len t]
theorem mkGo_bd : ∀ (l : List Int) (fr : Int), (∀ s ∈ mkGo fr l, fr < s.1 ∧ s.1 ≤ fr + 5 * l.length ∧ 1 ≤ s.2 ∧ s.2 ≤ 255) ∧ (mkGo fr l).Pairwise (fun a b => a.1 < b.1)
  | [], fr => by simp [mkGo]
  | n :: t, fr => by
    have hu := mkU_bd (n % 1048576)
    have h5 : 0 ≤ n % 1048576 % 5 ∧ n % 1048576 % 5 < 5 := by omega
    obtain ⟨h1, h2⟩ := mkGo_bd t (fr + 1 + n % 1048576 % 5)
    refine ⟨fun s hs => ?_, List.pairwise_cons.2 ⟨fun s hs => (h1 s hs).1, h2⟩⟩
    rcases List.mem_cons.1 hs with rfl | hs
    · simp only [List.length_cons]; omega
    · have := h1 s hs
      simp only [List.length_cons]; omega
theorem mkC_val (nums : List Int) : Val (mkC nums) ∧ (mkC nums).length ≤ 12 ∧ ∀ s ∈ mkC nums, s.1 ≤ 60 := by
  obtain ⟨h1, h2⟩ := mkGo_bd (nums.take 12) 0
  have hl : (nums.take 12).length ≤ 12 := by simp; omega
  refine ⟨⟨h2, fun s hs => ?_⟩, by unfold mkC; rw [mkGo_len]; exact hl, fun s hs => ?_⟩
  · have := h1 s hs; omega
  · have := h1 s hs; omega

def madeS : Spec := { rel := fun args ins res outs => ∃ nums : List Int, args = [dI nums] ∧ ins = [] ∧ res = .row 0 2 0 (mkC nums).length ∧ outs = [.rows 38 2 ((mkC nums).map encDS)] }
theorem made_at (nums : List Int) : madeS.rel [dI nums] [] (.row 0 2 0 (mkC nums).length) [.rows 38 2 ((mkC nums).map encDS)] := ⟨nums, rfl, rfl, rfl, rfl⟩
set_option maxHeartbeats 2000000 in
theorem made_ok : Ok Try.prog 24 madeS := by
  refine fn_ok madeS Try.func24 rfl rfl ?_
  rintro args ins res outs ⟨l, rfl, rfl, rfl, rfl⟩
  refine ⟨by simp [Try.ntmps24], fun w0 V Bo mu0 => ?_⟩
  repeat' (first
    | (with_reducible first | refine W_seq ?_ | refine W_condT rfl ?_ | refine W_condF rfl ?_ | refine W_tf rfl (fun h => ?_) (fun h => ?_) | refine W_block ?_ | refine W_scope ?_ | refine endQ_ret ?_ | refine endQ_normal ?_)
    | ((with_reducible first | refine hK _ ?_ | refine hK _ _ ?_); clear hK K)
    | ((first | (with_reducible first | refine ops_cons (fun K hK => ?_) | refine opsd_cons (fun K hK => ?_) | refine ops_nil ?_ | refine fit_i64 (by omega) ?_ | refine fit_u8 (by omega) ?_ | refine fit_u64 (by omega) ?_ | refine fit_u32 (by omega) ?_ | refine fit_any ?_ | refine quo_nn (by omega) ?_ | refine rem_nn (by omega) ?_ | refine quo_any ?_ | refine rem_any ?_ | refine sh_in (by simp only [IntKind.bits]; omega) ?_) | ((with_reducible refine opsd_nil ?_); refine And.intro (by kernel_rfl) ?_) | with_reducible refine callV_snap ?_ | (with_reducible first | refine slice_old ?_ | refine app_grow ?_ | refine idx_map (by omega) ?_ | refine W_reg [(0, [0]), (1, [0, 3]), (2, [0, 3, 4]), (3, [0, 3, 4, 5]), (4, [0, 3, 4, 5, 15]), (5, [0, 3, 4, 5]), (6, [0, 3, 4, 5, 6]), (7, [0, 3, 4, 5, 6]), (8, [0, 3, 4, 5, 6, 7]), (9, [0, 3, 4, 5, 7, 39]), (10, [0, 3, 4, 5, 7]), (11, [0, 3, 4, 5]), (12, [2])] ?_ | refine W_drw [(0, [0]), (1, [0, 3]), (2, [0, 3, 4]), (3, [0, 3, 4, 5]), (4, [0, 3, 4, 5, 15]), (5, [0, 3, 4, 5]), (6, [0, 3, 4, 5, 6]), (7, [0, 3, 4, 5, 6]), (8, [0, 3, 4, 5, 6, 7]), (9, [0, 3, 4, 5, 7, 39]), (10, [0, 3, 4, 5, 7]), (11, [0, 3, 4, 5]), (12, [2])] (by kernel_rfl) ?_ | refine W_label ?_ | refine W_skip ?_ | refine W_exit ?_ | refine W_ret ?_ | refine end_at0 ?_) | (with_reducible refine And.intro (fun h => ?_) (fun h => ?_)) | (with_reducible refine And.intro (by omega) ?_)); (try simp only [go_sem, Nat.reduceAdd, Nat.reduceSub, Nat.reduceMul, Nat.reduceDiv, Nat.reduceMod, Nat.reducePow, Nat.reduceLT, Nat.reduceEqDiff, Nat.reduceBEq, Nat.reduceLeDiff, reduceIte, reduceCtorEq, Int.reduceLT, Int.reduceLE, Int.reduceEq, Int.reduceNe, Int.reduceNeg, Int.reduceAdd, Int.reduceSub, Int.reduceMul, Int.reduceToNat, Int.reducePow, Int.reduceDiv, Int.reduceMod, Nat.reduceSucc, Try.ntmps24, Try.results24, madeS]))
    | fail)
  refine W_adopt 3 38 2 (by decide) (by simp [go_sem]) ?_
  refine W_loop (fun x : Nat × Int × List (Int × Int) => ⟨[(0, dI l), (3, .row 0 2 0 x.2.2.length), (4, iv x.2.1), (5, iv x.1)], [some (.rows 38 2 (x.2.2.map encDS))]⟩)
    (fun x => x.1 ≤ l.length ∧ x.1 ≤ 12 ∧ x.2.2.length = x.1 ∧ 0 ≤ x.2.1 ∧ x.2.1 ≤ 5 * x.1 ∧ x.2.2 ++ mkGo x.2.1 ((l.take 12).drop x.1) = mkC l) (fun x => 12 - x.1) (0, 0, []) ⟨Nat.zero_le _, Nat.zero_le _, rfl, Int.le_refl _, Int.le_refl _, rfl⟩ [0] ?_ ?_
  · simp [go_sem]
  rintro ⟨k, fr, acc⟩ ⟨hk, hk12, hal, f0, f1, hgo⟩
  dsimp only at hk hk12 hal f0 f1 hgo
  by_cases hlt : k < l.length
  · have hki : (k : Int) < l.length := by omega
    by_cases h12 : k < 12
    · have h12i : (k : Int) < 12 := by omega
      have hd : (l.take 12).drop k = l[k] :: (l.take 12).drop (k + 1) := by
        rw [drop_get _ k (by simp; omega)]; simp
      rw [hd, mkGo] at hgo
      have m0 := Int.emod_nonneg (l[k]) (show (1048576 : Int) ≠ 0 by decide)
      have m1 := Int.emod_lt_of_pos (l[k]) (show (0 : Int) < 1048576 by decide)
      generalize hm : l[k] % 1048576 = m at *
      have hq5 : m.tdiv 5 = m / 5 := Int.tdiv_eq_ediv_of_nonneg m0
      have hq6 : m.tdiv 1280 = m / 1280 := Int.tdiv_eq_ediv_of_nonneg m0
      by_cases hc1 : m / 1280 % 4 = 0
      · have hu : mkU m = 255 := by unfold mkU; rw [if_pos (.inl hc1)]
        rw [hu] at hgo
        repeat' (first
          | (with_reducible first | refine W_seq ?_ | refine W_condT rfl ?_ | refine W_condF rfl ?_ | refine W_tf rfl (fun h => ?_) (fun h => ?_) | refine W_block ?_ | refine W_scope ?_ | refine endQ_ret ?_ | refine endQ_normal ?_)
          | ((with_reducible first | refine hK _ ?_ | refine hK _ _ ?_); clear hK K)
          | ((first | (with_reducible first | refine ops_cons (fun K hK => ?_) | refine opsd_cons (fun K hK => ?_) | refine ops_nil ?_ | refine fit_i64 (by omega) ?_ | refine fit_u8 (by omega) ?_ | refine fit_u64 (by omega) ?_ | refine fit_u32 (by omega) ?_ | refine fit_any ?_ | refine quo_nn (by omega) ?_ | refine rem_nn (by omega) ?_ | refine quo_any ?_ | refine rem_any ?_ | refine sh_in (by simp only [IntKind.bits]; omega) ?_) | ((with_reducible refine opsd_nil ?_); refine And.intro (by kernel_rfl) ?_) | with_reducible refine callV_snap ?_ | ((with_reducible refine call_go ModS Mod_ok ?_); refine ⟨(by first | exact alOk_nil _ | exact alOk_f rfl), _, _, Mod_at _ 1048576 (by decide) (by decide), ?_⟩) | (with_reducible first | refine slice_old ?_ | refine app_grow ?_ | refine idx_map (by omega) ?_ | refine W_reg [(0, [0]), (1, [0, 3]), (2, [0, 3, 4]), (3, [0, 3, 4, 5]), (4, [0, 3, 4, 5, 15]), (5, [0, 3, 4, 5]), (6, [0, 3, 4, 5, 6]), (7, [0, 3, 4, 5, 6]), (8, [0, 3, 4, 5, 6, 7]), (9, [0, 3, 4, 5, 7, 39]), (10, [0, 3, 4, 5, 7]), (11, [0, 3, 4, 5]), (12, [2])] ?_ | refine W_drw [(0, [0]), (1, [0, 3]), (2, [0, 3, 4]), (3, [0, 3, 4, 5]), (4, [0, 3, 4, 5, 15]), (5, [0, 3, 4, 5]), (6, [0, 3, 4, 5, 6]), (7, [0, 3, 4, 5, 6]), (8, [0, 3, 4, 5, 6, 7]), (9, [0, 3, 4, 5, 7, 39]), (10, [0, 3, 4, 5, 7]), (11, [0, 3, 4, 5]), (12, [2])] (by kernel_rfl) ?_ | refine W_label ?_ | refine W_skip ?_ | refine W_exit ?_ | refine W_ret ?_ | refine end_at0 ?_) | (with_reducible refine And.intro (fun h => ?_) (fun h => ?_)) | (with_reducible refine And.intro (by omega) ?_)); (try simp only [go_sem, Nat.reduceAdd, Nat.reduceSub, Nat.reduceMul, Nat.reduceDiv, Nat.reduceMod, Nat.reducePow, Nat.reduceLT, Nat.reduceEqDiff, Nat.reduceBEq, Nat.reduceLeDiff, reduceIte, reduceCtorEq, Int.reduceLT, Int.reduceLE, Int.reduceEq, Int.reduceNe, Int.reduceNeg, Int.reduceAdd, Int.reduceSub, Int.reduceMul, Int.reduceToNat, Int.reducePow, Int.reduceDiv, Int.reduceMod, Nat.reduceSucc, encDI, encDS, hki, h12i, hm, hc1, Try.ntmps24, Try.results24, madeS]))
          | fail)
        refine ⟨(k + 1, fr + 1 + m % 5, acc ++ [(fr + 1 + m % 5, 255)]), [2], ⟨hlt, by omega, by simp [hal], by dsimp only; omega, by dsimp only; omega, by simpa using hgo⟩, by dsimp only; omega, ?_⟩
        simp [go_sem, encDS]
      · by_cases hc2 : m / 5 % 256 = 0
        · have hu : mkU m = 255 := by unfold mkU; rw [if_pos (.inr hc2)]
          rw [hu] at hgo
          repeat' (first
            | (with_reducible first | refine W_seq ?_ | refine W_condT rfl ?_ | refine W_condF rfl ?_ | refine W_tf rfl (fun h => ?_) (fun h => ?_) | refine W_block ?_ | refine W_scope ?_ | refine endQ_ret ?_ | refine endQ_normal ?_)
            | ((with_reducible first | refine hK _ ?_ | refine hK _ _ ?_); clear hK K)
            | ((first | (with_reducible first | refine ops_cons (fun K hK => ?_) | refine opsd_cons (fun K hK => ?_) | refine ops_nil ?_ | refine fit_i64 (by omega) ?_ | refine fit_u8 (by omega) ?_ | refine fit_u64 (by omega) ?_ | refine fit_u32 (by omega) ?_ | refine fit_any ?_ | refine quo_nn (by omega) ?_ | refine rem_nn (by omega) ?_ | refine quo_any ?_ | refine rem_any ?_ | refine sh_in (by simp only [IntKind.bits]; omega) ?_) | ((with_reducible refine opsd_nil ?_); refine And.intro (by kernel_rfl) ?_) | with_reducible refine callV_snap ?_ | ((with_reducible refine call_go ModS Mod_ok ?_); refine ⟨(by first | exact alOk_nil _ | exact alOk_f rfl), _, _, Mod_at _ 1048576 (by decide) (by decide), ?_⟩) | (with_reducible first | refine slice_old ?_ | refine app_grow ?_ | refine idx_map (by omega) ?_ | refine W_reg [(0, [0]), (1, [0, 3]), (2, [0, 3, 4]), (3, [0, 3, 4, 5]), (4, [0, 3, 4, 5, 15]), (5, [0, 3, 4, 5]), (6, [0, 3, 4, 5, 6]), (7, [0, 3, 4, 5, 6]), (8, [0, 3, 4, 5, 6, 7]), (9, [0, 3, 4, 5, 7, 39]), (10, [0, 3, 4, 5, 7]), (11, [0, 3, 4, 5]), (12, [2])] ?_ | refine W_drw [(0, [0]), (1, [0, 3]), (2, [0, 3, 4]), (3, [0, 3, 4, 5]), (4, [0, 3, 4, 5, 15]), (5, [0, 3, 4, 5]), (6, [0, 3, 4, 5, 6]), (7, [0, 3, 4, 5, 6]), (8, [0, 3, 4, 5, 6, 7]), (9, [0, 3, 4, 5, 7, 39]), (10, [0, 3, 4, 5, 7]), (11, [0, 3, 4, 5]), (12, [2])] (by kernel_rfl) ?_ | refine W_label ?_ | refine W_skip ?_ | refine W_exit ?_ | refine W_ret ?_ | refine end_at0 ?_) | (with_reducible refine And.intro (fun h => ?_) (fun h => ?_)) | (with_reducible refine And.intro (by omega) ?_)); (try simp only [go_sem, Nat.reduceAdd, Nat.reduceSub, Nat.reduceMul, Nat.reduceDiv, Nat.reduceMod, Nat.reducePow, Nat.reduceLT, Nat.reduceEqDiff, Nat.reduceBEq, Nat.reduceLeDiff, reduceIte, reduceCtorEq, Int.reduceLT, Int.reduceLE, Int.reduceEq, Int.reduceNe, Int.reduceNeg, Int.reduceAdd, Int.reduceSub, Int.reduceMul, Int.reduceToNat, Int.reducePow, Int.reduceDiv, Int.reduceMod, Nat.reduceSucc, encDI, encDS, hki, h12i, hm, hc1, hc2, Try.ntmps24, Try.results24, madeS]))
            | fail)
          refine ⟨(k + 1, fr + 1 + m % 5, acc ++ [(fr + 1 + m % 5, 255)]), [2], ⟨hlt, by omega, by simp [hal], by dsimp only; omega, by dsimp only; omega, by simpa using hgo⟩, by dsimp only; omega, ?_⟩
          simp [go_sem, encDS]
        · have hu : mkU m = m / 5 % 256 := by unfold mkU; rw [if_neg (by omega)]
          rw [hu] at hgo
          repeat' (first
            | (with_reducible first | refine W_seq ?_ | refine W_condT rfl ?_ | refine W_condF rfl ?_ | refine W_tf rfl (fun h => ?_) (fun h => ?_) | refine W_block ?_ | refine W_scope ?_ | refine endQ_ret ?_ | refine endQ_normal ?_)
            | ((with_reducible first | refine hK _ ?_ | refine hK _ _ ?_); clear hK K)
            | ((first | (with_reducible first | refine ops_cons (fun K hK => ?_) | refine opsd_cons (fun K hK => ?_) | refine ops_nil ?_ | refine fit_i64 (by omega) ?_ | refine fit_u8 (by omega) ?_ | refine fit_u64 (by omega) ?_ | refine fit_u32 (by omega) ?_ | refine fit_any ?_ | refine quo_nn (by omega) ?_ | refine rem_nn (by omega) ?_ | refine quo_any ?_ | refine rem_any ?_ | refine sh_in (by simp only [IntKind.bits]; omega) ?_) | ((with_reducible refine opsd_nil ?_); refine And.intro (by kernel_rfl) ?_) | with_reducible refine callV_snap ?_ | ((with_reducible refine call_go ModS Mod_ok ?_); refine ⟨(by first | exact alOk_nil _ | exact alOk_f rfl), _, _, Mod_at _ 1048576 (by decide) (by decide), ?_⟩) | (with_reducible first | refine slice_old ?_ | refine app_grow ?_ | refine idx_map (by omega) ?_ | refine W_reg [(0, [0]), (1, [0, 3]), (2, [0, 3, 4]), (3, [0, 3, 4, 5]), (4, [0, 3, 4, 5, 15]), (5, [0, 3, 4, 5]), (6, [0, 3, 4, 5, 6]), (7, [0, 3, 4, 5, 6]), (8, [0, 3, 4, 5, 6, 7]), (9, [0, 3, 4, 5, 7, 39]), (10, [0, 3, 4, 5, 7]), (11, [0, 3, 4, 5]), (12, [2])] ?_ | refine W_drw [(0, [0]), (1, [0, 3]), (2, [0, 3, 4]), (3, [0, 3, 4, 5]), (4, [0, 3, 4, 5, 15]), (5, [0, 3, 4, 5]), (6, [0, 3, 4, 5, 6]), (7, [0, 3, 4, 5, 6]), (8, [0, 3, 4, 5, 6, 7]), (9, [0, 3, 4, 5, 7, 39]), (10, [0, 3, 4, 5, 7]), (11, [0, 3, 4, 5]), (12, [2])] (by kernel_rfl) ?_ | refine W_label ?_ | refine W_skip ?_ | refine W_exit ?_ | refine W_ret ?_ | refine end_at0 ?_) | (with_reducible refine And.intro (fun h => ?_) (fun h => ?_)) | (with_reducible refine And.intro (by omega) ?_)); (try simp only [go_sem, Nat.reduceAdd, Nat.reduceSub, Nat.reduceMul, Nat.reduceDiv, Nat.reduceMod, Nat.reducePow, Nat.reduceLT, Nat.reduceEqDiff, Nat.reduceBEq, Nat.reduceLeDiff, reduceIte, reduceCtorEq, Int.reduceLT, Int.reduceLE, Int.reduceEq, Int.reduceNe, Int.reduceNeg, Int.reduceAdd, Int.reduceSub, Int.reduceMul, Int.reduceToNat, Int.reducePow, Int.reduceDiv, Int.reduceMod, Nat.reduceSucc, encDI, encDS, hki, h12i, hm, hc1, hc2, Try.ntmps24, Try.results24, madeS]))
            | fail)
          refine ⟨(k + 1, fr + 1 + m % 5, acc ++ [(fr + 1 + m % 5, m / 5 % 256)]), [2], ⟨hlt, by omega, by simp [hal], by dsimp only; omega, by dsimp only; omega, by simpa using hgo⟩, by dsimp only; omega, ?_⟩
          simp [go_sem, encDS]
    · have h12i : ¬ (k : Int) < 12 := by omega
      have e : mkC l = acc := by rw [← hgo, List.drop_eq_nil_of_le (by simp; omega)]; simp [mkGo]
      repeat' (first
        | (with_reducible first | refine W_seq ?_ | refine W_condT rfl ?_ | refine W_condF rfl ?_ | refine W_tf rfl (fun h => ?_) (fun h => ?_) | refine W_block ?_ | refine W_scope ?_ | refine endQ_ret ?_ | refine endQ_normal ?_)
        | ((with_reducible first | refine hK _ ?_ | refine hK _ _ ?_); clear hK K)
        | ((first | (with_reducible first | refine ops_cons (fun K hK => ?_) | refine opsd_cons (fun K hK => ?_) | refine ops_nil ?_ | refine fit_i64 (by omega) ?_ | refine fit_u8 (by omega) ?_ | refine fit_u64 (by omega) ?_ | refine fit_u32 (by omega) ?_ | refine fit_any ?_ | refine quo_nn (by omega) ?_ | refine rem_nn (by omega) ?_ | refine quo_any ?_ | refine rem_any ?_ | refine sh_in (by simp only [IntKind.bits]; omega) ?_) | ((with_reducible refine opsd_nil ?_); refine And.intro (by kernel_rfl) ?_) | with_reducible refine callV_snap ?_ | (with_reducible first | refine slice_old ?_ | refine app_grow ?_ | refine idx_map (by omega) ?_ | refine W_reg [(0, [0]), (1, [0, 3]), (2, [0, 3, 4]), (3, [0, 3, 4, 5]), (4, [0, 3, 4, 5, 15]), (5, [0, 3, 4, 5]), (6, [0, 3, 4, 5, 6]), (7, [0, 3, 4, 5, 6]), (8, [0, 3, 4, 5, 6, 7]), (9, [0, 3, 4, 5, 7, 39]), (10, [0, 3, 4, 5, 7]), (11, [0, 3, 4, 5]), (12, [2])] ?_ | refine W_drw [(0, [0]), (1, [0, 3]), (2, [0, 3, 4]), (3, [0, 3, 4, 5]), (4, [0, 3, 4, 5, 15]), (5, [0, 3, 4, 5]), (6, [0, 3, 4, 5, 6]), (7, [0, 3, 4, 5, 6]), (8, [0, 3, 4, 5, 6, 7]), (9, [0, 3, 4, 5, 7, 39]), (10, [0, 3, 4, 5, 7]), (11, [0, 3, 4, 5]), (12, [2])] (by kernel_rfl) ?_ | refine W_label ?_ | refine W_skip ?_ | refine W_exit ?_ | refine W_ret ?_ | refine end_at0 ?_) | (with_reducible refine And.intro (fun h => ?_) (fun h => ?_)) | (with_reducible refine And.intro (by omega) ?_)); (try simp only [go_sem, Nat.reduceAdd, Nat.reduceSub, Nat.reduceMul, Nat.reduceDiv, Nat.reduceMod, Nat.reducePow, Nat.reduceLT, Nat.reduceEqDiff, Nat.reduceBEq, Nat.reduceLeDiff, reduceIte, reduceCtorEq, Int.reduceLT, Int.reduceLE, Int.reduceEq, Int.reduceNe, Int.reduceNeg, Int.reduceAdd, Int.reduceSub, Int.reduceMul, Int.reduceToNat, Int.reducePow, Int.reduceDiv, Int.reduceMod, Nat.reduceSucc, hki, h12i, Try.ntmps24, Try.results24, madeS]))
        | fail)
      rw [e]
      refine end_at [0] ?_
      simp [go_sem, Try.results24, madeS]
      exact flatS'
  · have hki : ¬ (k : Int) < l.length := by omega
    have e : mkC l = acc := by rw [← hgo, List.drop_eq_nil_of_le (by simp; omega)]; simp [mkGo]
    repeat' (first
      | (with_reducible first | refine W_seq ?_ | refine W_condT rfl ?_ | refine W_condF rfl ?_ | refine W_tf rfl (fun h => ?_) (fun h => ?_) | refine W_block ?_ | refine W_scope ?_ | refine endQ_ret ?_ | refine endQ_normal ?_)
      | ((with_reducible first | refine hK _ ?_ | refine hK _ _ ?_); clear hK K)
      | ((first | (with_reducible first | refine ops_cons (fun K hK => ?_) | refine opsd_cons (fun K hK => ?_) | refine ops_nil ?_ | refine fit_i64 (by omega) ?_ | refine fit_u8 (by omega) ?_ | refine fit_u64 (by omega) ?_ | refine fit_u32 (by omega) ?_ | refine fit_any ?_ | refine quo_nn (by omega) ?_ | refine rem_nn (by omega) ?_ | refine quo_any ?_ | refine rem_any ?_ | refine sh_in (by simp only [IntKind.bits]; omega) ?_) | ((with_reducible refine opsd_nil ?_); refine And.intro (by kernel_rfl) ?_) | with_reducible refine callV_snap ?_ | (with_reducible first | refine slice_old ?_ | refine app_grow ?_ | refine idx_map (by omega) ?_ | refine W_reg [(0, [0]), (1, [0, 3]), (2, [0, 3, 4]), (3, [0, 3, 4, 5]), (4, [0, 3, 4, 5, 15]), (5, [0, 3, 4, 5]), (6, [0, 3, 4, 5, 6]), (7, [0, 3, 4, 5, 6]), (8, [0, 3, 4, 5, 6, 7]), (9, [0, 3, 4, 5, 7, 39]), (10, [0, 3, 4, 5, 7]), (11, [0, 3, 4, 5]), (12, [2])] ?_ | refine W_drw [(0, [0]), (1, [0, 3]), (2, [0, 3, 4]), (3, [0, 3, 4, 5]), (4, [0, 3, 4, 5, 15]), (5, [0, 3, 4, 5]), (6, [0, 3, 4, 5, 6]), (7, [0, 3, 4, 5, 6]), (8, [0, 3, 4, 5, 6, 7]), (9, [0, 3, 4, 5, 7, 39]), (10, [0, 3, 4, 5, 7]), (11, [0, 3, 4, 5]), (12, [2])] (by kernel_rfl) ?_ | refine W_label ?_ | refine W_skip ?_ | refine W_exit ?_ | refine W_ret ?_ | refine end_at0 ?_) | (with_reducible refine And.intro (fun h => ?_) (fun h => ?_)) | (with_reducible refine And.intro (by omega) ?_)); (try simp only [go_sem, Nat.reduceAdd, Nat.reduceSub, Nat.reduceMul, Nat.reduceDiv, Nat.reduceMod, Nat.reducePow, Nat.reduceLT, Nat.reduceEqDiff, Nat.reduceBEq, Nat.reduceLeDiff, reduceIte, reduceCtorEq, Int.reduceLT, Int.reduceLE, Int.reduceEq, Int.reduceNe, Int.reduceNeg, Int.reduceAdd, Int.reduceSub, Int.reduceMul, Int.reduceToNat, Int.reducePow, Int.reduceDiv, Int.reduceMod, Nat.reduceSucc, hki, Try.ntmps24, Try.results24, madeS]))
      | fail)
    rw [e]
    refine end_at [0] ?_
    simp [go_sem, Try.results24, madeS]
    exact flatS'

theorem usd_add (u : Int) (h0 : 0 ≤ u) (h1 : u ≤ 254) : usd (u + 2 ^ (plc u).toNat) (plc u) = true := by
  have := of_fin (Q := fun u => u ≤ 254 → usd (u + 2 ^ (plc u).toNat) (plc u) = true) (by decide +kernel) u h0 (by omega)
  exact this h1
theorem val_tk {c : List (Int × Int)} (hv : Val c) {i : Nat} (hlo : Lo c i) : Val (tk c i) := by
  obtain ⟨hi, hn, _⟩ := hlo
  have hp := plcU_bd hv hi hn
  obtain ⟨i0, i1, i2, i3⟩ := hv.get i hi
  have e : tk c i = c.set i ((gt c i).1, (c[i]).2 + 2 ^ (plc (c[i]).2).toNat) := by simp [tk, hi, gt_lt hi]
  refine ⟨sorted_frames.2 (by rw [e, frames_set]; exact sorted_frames.1 hv.sorted), fun s hs => ?_⟩
  rw [e] at hs
  rcases List.mem_or_eq_of_mem_set hs with h | rfl
  · exact hv.bd s h
  · rw [gt_lt hi]; exact ⟨i0, i1, hp.1, hp.2⟩
theorem full_or_lo (c : List (Int × Int)) : Full c ∨ ∃ i, Lo c i := by
  cases h : firstI c with
  | none => exact .inl (firstI_none h)
  | some i => exact .inr ⟨i, firstI_some h⟩

def backS : Spec := { rel := fun args ins res outs => ∃ nums : List Int, args = [dI nums] ∧ ins = [] ∧ res = bv true ∧ outs = [] }
set_option maxHeartbeats 4000000 in
theorem back_ok : Ok Try.prog 5 backS := by
  refine fn_ok backS Try.func5 rfl rfl ?_
  rintro args ins res outs ⟨nums, rfl, rfl, rfl, rfl⟩
  refine ⟨by simp [Try.ntmps5], fun w0 V Bo mu0 => ?_⟩
  obtain ⟨hv, hl, h60⟩ := mkC_val nums
  have ub := Try.underlying4
  generalize hC : mkC nums = c at *
  have hl6 : c.length ≤ 1000000 := by omega
  rcases full_or_lo c with hf | ⟨i, hlo⟩
  · have hfr : ∀ s ∈ c, s.1 < 200 := fun s hs => by have := h60 s hs; omega
    have hv2 : Val (c ++ [(200, 1)]) := by
      refine ⟨List.pairwise_append.2 ⟨hv.sorted, List.pairwise_singleton _ _, fun a ha b hb => by simp at hb; subst hb; exact hfr a ha⟩, fun s hs => ?_⟩
      rcases List.mem_append.1 hs with h | h
      · exact hv.bd s h
      · simp at h; subst h; decide
    have hlen : (c ++ [((200 : Int), (1 : Int))]).length = c.length + 1 := by simp
    have hlt : c.length < (c ++ [((200 : Int), (1 : Int))]).length := by simp
    have hg : (c ++ [((200 : Int), (1 : Int))])[c.length] = (200, 1) := by simp
    have ht : List.take (c.length + 1) (List.map encDS (c ++ [((200 : Int), (1 : Int))])) = List.map encDS (c ++ [(200, 1)]) := List.take_of_length_le (by simp)
    have he : (c ++ [((200 : Int), (1 : Int))]).eraseIdx c.length = c := by simp [List.eraseIdx_append_of_length_le]
    have hl7 : (c ++ [((200 : Int), (1 : Int))]).length ≤ 1000000 := by omega
    have hl8 : c.length + 1 - 1 = c.length := by omega
    have q1 : ((c ++ [((200 : Int), (1 : Int))])[c.length]).1 = 1600 / 8 := by rw [hg]; rfl
    have q2 : usd ((c ++ [((200 : Int), (1 : Int))])[c.length]).2 (1600 % 8) = true := by rw [hg]; decide +kernel
    have q3 : ((c ++ [((200 : Int), (1 : Int))])[c.length]).2 - 2 ^ ((1600 : Int) % 8).toNat = 0 := by rw [hg]; decide +kernel
    repeat' (first
      | (with_reducible first | refine W_seq ?_ | refine W_condT rfl ?_ | refine W_condF rfl ?_ | refine W_tf rfl (fun h => ?_) (fun h => ?_) | refine W_block ?_ | refine W_scope ?_ | refine endQ_ret ?_ | refine endQ_normal ?_)
      | ((with_reducible first | refine hK _ ?_ | refine hK _ _ ?_); clear hK K)
      | ((first | (with_reducible first | refine ops_cons (fun K hK => ?_) | refine opsd_cons (fun K hK => ?_) | refine ops_nil ?_ | refine fit_i64 (by omega) ?_ | refine fit_u8 (by omega) ?_ | refine fit_u64 (by omega) ?_ | refine fit_u32 (by omega) ?_ | refine fit_any ?_ | refine quo_nn (by omega) ?_ | refine rem_nn (by omega) ?_ | refine quo_any ?_ | refine rem_any ?_ | refine sh_in (by simp only [IntKind.bits]; omega) ?_) | ((with_reducible refine opsd_nil ?_); refine And.intro (by kernel_rfl) ?_) | with_reducible refine callV_snap ?_ | ((with_reducible refine call_go knownS known_ok ?_); refine ⟨(by first | exact alOk_nil _ | exact alOk_f rfl), _, _, known_at , ?_⟩) | ((with_reducible refine call_go madeS made_ok ?_); refine ⟨(by first | exact alOk_nil _ | exact alOk_f rfl), _, _, made_at _, ?_⟩) | ((with_reducible refine call_go TakeEnS TakeEn_ok ?_); refine ⟨(by first | exact alOk_nil _ | exact alOk_f rfl), _, _, TakeEn_at _ 200 hl6 hv hf (by decide) (by decide) hfr, ?_⟩) | ((with_reducible refine call_go FreeDrS FreeDr_ok ?_); refine ⟨(by first | exact alOk_nil _ | exact alOk_f rfl), _, _, FreeDr_at (c ++ [(200, 1)]) 1600 c.length hlt hl7 hv2 (by decide) (by decide) q1 q2 q3, ?_⟩) | ((with_reducible refine call_go NeedsS Needs_ok ?_); refine ⟨(by first | exact alOk_nil _ | exact alOk_f rfl), _, _, Needs_at c true hl6 hv (.inl ⟨rfl, hf⟩), ?_⟩) | ((with_reducible refine call_go SameS Same_ok ?_); refine ⟨(by first | exact alOk_nil _ | exact alOk_f rfl), _, _, Same_at _ hl6, ?_⟩) | (with_reducible first | refine slice_old ?_ | refine app_grow ?_ | refine idx_map (by omega) ?_ | refine W_reg [(0, [0]), (1, [0, 3]), (2, [3, 4]), (3, [3, 4, 5, 6, 7, 8]), (4, [3, 4, 7, 8, 9, 10, 11]), (5, [3, 4, 7, 8, 9, 10, 11, 12, 13]), (6, [3, 4, 7, 8, 9, 10, 11, 12, 13, 14]), (7, [3, 4, 7, 8, 9, 10, 11, 12, 13, 14, 37]), (8, [3, 4, 7, 8, 9, 10, 11, 12, 13, 14]), (9, [2])] ?_ | refine W_drw [(0, [0]), (1, [0, 3]), (2, [3, 4]), (3, [3, 4, 5, 6, 7, 8]), (4, [3, 4, 7, 8, 9, 10, 11]), (5, [3, 4, 7, 8, 9, 10, 11, 12, 13]), (6, [3, 4, 7, 8, 9, 10, 11, 12, 13, 14]), (7, [3, 4, 7, 8, 9, 10, 11, 12, 13, 14, 37]), (8, [3, 4, 7, 8, 9, 10, 11, 12, 13, 14]), (9, [2])] (by kernel_rfl) ?_ | refine W_label ?_ | refine W_skip ?_ | refine W_exit ?_ | refine W_ret ?_ | refine end_at0 ?_) | (with_reducible refine And.intro (fun h => ?_) (fun h => ?_)) | (with_reducible refine And.intro (by omega) ?_)); (try simp only [go_sem, Nat.reduceAdd, Nat.reduceSub, Nat.reduceMul, Nat.reduceDiv, Nat.reduceMod, Nat.reducePow, Nat.reduceLT, Nat.reduceEqDiff, Nat.reduceBEq, Nat.reduceLeDiff, reduceIte, reduceCtorEq, Int.reduceLT, Int.reduceLE, Int.reduceEq, Int.reduceNe, Int.reduceNeg, Int.reduceAdd, Int.reduceSub, Int.reduceMul, Int.reduceToNat, Int.reducePow, Int.reduceDiv, Int.reduceMod, Nat.reduceSucc, hC, ht, hlen, he, hl8, ub, beq_self_eq_true, Try.ntmps5, Try.results5, backS]))
      | fail)
  · have hi := hlo.1
    have hn : (c[i]).2 ≠ 255 := hlo.2.1
    obtain ⟨b0, b1, b2, b3⟩ := hv.get i hi
    obtain ⟨p0, p1⟩ := plc_bd (c[i]).2 (by omega) (by omega)
    have hv2 := val_tk hv hlo
    have hlen : (tk c i).length = c.length := by unfold tk; split <;> simp
    have hlt : i < (tk c i).length := by omega
    have hg : (tk c i)[i] = ((c[i]).1, (c[i]).2 + 2 ^ (plc (c[i]).2).toNat) := by simp [tk, hi]
    have ht : List.take c.length (List.map encDS (tk c i)) = List.map encDS (tk c i) := List.take_of_length_le (by simp [hlen])
    have hl7 : (tk c i).length ≤ 1000000 := by omega
    have o8 : ((c[i]).1 * 8 + plc (c[i]).2) / 8 = (c[i]).1 := by omega
    have o9 : ((c[i]).1 * 8 + plc (c[i]).2) % 8 = plc (c[i]).2 := by omega
    have q1 : ((tk c i)[i]).1 = ((c[i]).1 * 8 + plc (c[i]).2) / 8 := by rw [hg, o8]
    have q2 : usd ((tk c i)[i]).2 (((c[i]).1 * 8 + plc (c[i]).2) % 8) = true := by rw [hg, o9]; exact usd_add _ (by omega) (by omega)
    have q3 : ((tk c i)[i]).2 - 2 ^ (((c[i]).1 * 8 + plc (c[i]).2) % 8).toNat ≠ 0 := by rw [hg, o9]; dsimp only; omega
    have he : (tk c i).set i (((tk c i)[i]).1, ((tk c i)[i]).2 - 2 ^ (((c[i]).1 * 8 + plc (c[i]).2) % 8).toNat) = c := by
      rw [hg, o9]
      dsimp only
      rw [Int.add_sub_cancel]
      simp only [tk, hi, dif_pos, List.set_set]
      exact List.set_getElem_self hi
    have hpf := pow8_bd _ p0 p1
    repeat' (first
      | (with_reducible first | refine W_seq ?_ | refine W_condT rfl ?_ | refine W_condF rfl ?_ | refine W_tf rfl (fun h => ?_) (fun h => ?_) | refine W_block ?_ | refine W_scope ?_ | refine endQ_ret ?_ | refine endQ_normal ?_)
      | ((with_reducible first | refine hK _ ?_ | refine hK _ _ ?_); clear hK K)
      | ((first | (with_reducible first | refine ops_cons (fun K hK => ?_) | refine opsd_cons (fun K hK => ?_) | refine ops_nil ?_ | refine fit_i64 (by omega) ?_ | refine fit_u8 (by omega) ?_ | refine fit_u64 (by omega) ?_ | refine fit_u32 (by omega) ?_ | refine fit_any ?_ | refine quo_nn (by omega) ?_ | refine rem_nn (by omega) ?_ | refine quo_any ?_ | refine rem_any ?_ | refine sh_in (by simp only [IntKind.bits]; omega) ?_) | ((with_reducible refine opsd_nil ?_); refine And.intro (by kernel_rfl) ?_) | with_reducible refine callV_snap ?_ | ((with_reducible refine call_go knownS known_ok ?_); refine ⟨(by first | exact alOk_nil _ | exact alOk_f rfl), _, _, known_at , ?_⟩) | ((with_reducible refine call_go madeS made_ok ?_); refine ⟨(by first | exact alOk_nil _ | exact alOk_f rfl), _, _, made_at _, ?_⟩) | ((with_reducible refine call_go TakePtS TakePt_ok ?_); refine ⟨(by first | exact alOk_nil _ | exact alOk_f rfl), _, _, TakePt_at _ 200 i hi hl6 hv (by decide) (by decide) hlo, ?_⟩) | ((with_reducible refine call_go FreeKpS FreeKp_ok ?_); refine ⟨(by first | exact alOk_nil _ | exact alOk_f rfl), _, _, FreeKp_at (tk c i) _ i hlt hl7 hv2 (by omega) (by omega) q1 q2 q3, ?_⟩) | ((with_reducible refine call_go NeedsS Needs_ok ?_); refine ⟨(by first | exact alOk_nil _ | exact alOk_f rfl), _, _, Needs_at c false hl6 hv (.inr ⟨rfl, i, hlo⟩), ?_⟩) | ((with_reducible refine call_go SameS Same_ok ?_); refine ⟨(by first | exact alOk_nil _ | exact alOk_f rfl), _, _, Same_at _ hl6, ?_⟩) | (with_reducible first | refine slice_old ?_ | refine app_grow ?_ | refine idx_map (by omega) ?_ | refine W_reg [(0, [0]), (1, [0, 3]), (2, [3, 4]), (3, [3, 4, 5, 6, 7, 8]), (4, [3, 4, 7, 8, 9, 10, 11]), (5, [3, 4, 7, 8, 9, 10, 11, 12, 13]), (6, [3, 4, 7, 8, 9, 10, 11, 12, 13, 14]), (7, [3, 4, 7, 8, 9, 10, 11, 12, 13, 14, 37]), (8, [3, 4, 7, 8, 9, 10, 11, 12, 13, 14]), (9, [2])] ?_ | refine W_drw [(0, [0]), (1, [0, 3]), (2, [3, 4]), (3, [3, 4, 5, 6, 7, 8]), (4, [3, 4, 7, 8, 9, 10, 11]), (5, [3, 4, 7, 8, 9, 10, 11, 12, 13]), (6, [3, 4, 7, 8, 9, 10, 11, 12, 13, 14]), (7, [3, 4, 7, 8, 9, 10, 11, 12, 13, 14, 37]), (8, [3, 4, 7, 8, 9, 10, 11, 12, 13, 14]), (9, [2])] (by kernel_rfl) ?_ | refine W_label ?_ | refine W_skip ?_ | refine W_exit ?_ | refine W_ret ?_ | refine end_at0 ?_) | (with_reducible refine And.intro (fun h => ?_) (fun h => ?_)) | (with_reducible refine And.intro (by omega) ?_)); (try simp only [go_sem, Nat.reduceAdd, Nat.reduceSub, Nat.reduceMul, Nat.reduceDiv, Nat.reduceMod, Nat.reducePow, Nat.reduceLT, Nat.reduceEqDiff, Nat.reduceBEq, Nat.reduceLeDiff, reduceIte, reduceCtorEq, Int.reduceLT, Int.reduceLE, Int.reduceEq, Int.reduceNe, Int.reduceNeg, Int.reduceAdd, Int.reduceSub, Int.reduceMul, Int.reduceToNat, Int.reducePow, Int.reduceDiv, Int.reduceMod, Nat.reduceSucc, hC, ht, hlen, he, ub, beq_self_eq_true, Try.ntmps5, Try.results5, backS]))
      | fail)
end Go.Proofs.Ytokocigmchfdfaa
