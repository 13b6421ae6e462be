/- Lists of objects made of numbers, by the engine. -/
import Derived.Test.YtpkiabhlmjnemaaShrM
namespace Go.Proofs.Ytpkiabhlmjnemaa
open Go.RowKit
set_option maxRecDepth 100000
set_option linter.unusedSimpArgs false
set_option linter.unusedVariables false

def mdG : Int → Int → List Int → List O
  | _, _, [] => []
  | a, i, n :: t => (1 + n % 1048576 % 3, a + 1 + n % 1048576 / 3 % 5, (37 * i + 5) % 1000) :: mdG (a + 1 + n % 1048576 / 3 % 5) (i + 1) t
def md (nums : List Int) : List O := mdG 0 0 (nums.take 40)
theorem mdG_len : ∀ (l : List Int) (a i : Int), (mdG a i l).length = l.length
  | [], _, _ => rfl
  | n :: t, a, i => by simp [mdG, mdG_len t]
theorem md_len (nums : List Int) : (md nums).length ≤ 40 := by unfold md; rw [mdG_len]; simp; omega
theorem mdG_bd : ∀ (l : List Int) (a i : Int), 0 ≤ i → i + l.length ≤ 40 →
    (∀ o ∈ mdG a i l, a < o.2.1 ∧ o.2.1 ≤ a + 5 * l.length ∧ 1 ≤ o.1 ∧ o.1 ≤ 3 ∧ ∃ j : Int, i ≤ j ∧ j < i + l.length ∧ o.2.2 = (37 * j + 5) % 1000) ∧ (mdG a i l).Pairwise (fun x y => x.2.1 < y.2.1) ∧ (mdG a i l).Pairwise (fun x y => x.2.2 ≠ y.2.2)
  | [], a, i, _, _ => by simp [mdG]
  | n :: t, a, i, h0, h40 => by
    simp only [List.length_cons] at h40
    obtain ⟨h1, h2, h3⟩ := mdG_bd t (a + 1 + n % 1048576 / 3 % 5) (i + 1) (by omega) (by omega)
    simp only [mdG, List.length_cons]
    refine ⟨fun s hs => ?_, List.pairwise_cons.2 ⟨fun s hs => (h1 s hs).1, h2⟩, List.pairwise_cons.2 ⟨fun s hs => ?_, h3⟩⟩
    · rcases List.mem_cons.1 hs with rfl | hs
      · refine ⟨by dsimp only; omega, by dsimp only; omega, by dsimp only; omega, by dsimp only; omega, i, by omega, by omega, rfl⟩
      · obtain ⟨u1, u2, u3, u4, j, u5, u6, u7⟩ := h1 s hs
        exact ⟨by omega, by omega, u3, u4, j, by omega, by omega, u7⟩
    · obtain ⟨_, _, _, _, j, u5, u6, u7⟩ := h1 s hs
      dsimp only
      rw [u7]
      omega
theorem md_val (nums : List Int) : Vl (md nums) := by
  have hl : (nums.take 40).length ≤ 40 := by simp; omega
  obtain ⟨h1, h2, h3⟩ := mdG_bd (nums.take 40) 0 0 (by omega) (by omega)
  refine ⟨by have := md_len nums; omega, fun o ho => ?_, h2, h3⟩
  obtain ⟨u1, u2, u3, u4, j, u5, u6, u7⟩ := h1 o ho
  unfold oneE
  rw [if_neg (by omega), if_neg (by omega)]
theorem md_age (nums : List Int) : ∀ o ∈ md nums, 1 ≤ o.2.1 ∧ o.2.1 ≤ 200 ∧ 0 ≤ o.2.2 ∧ o.2.2 < 1000 := by
  have hl : (nums.take 40).length ≤ 40 := by simp; omega
  obtain ⟨h1, _, _⟩ := mdG_bd (nums.take 40) 0 0 (by omega) (by omega)
  intro o ho
  obtain ⟨u1, u2, u3, u4, j, u5, u6, u7⟩ := h1 o ho
  omega

def madeS : Spec := { rel := fun args ins res outs => ∃ nums : List Int, args = [dI nums] ∧ ins = [] ∧ res = .row 0 3 0 (md nums).length ∧ outs = [.rows 34 3 ((md nums).map encDO)] }
theorem made_at (nums : List Int) : madeS.rel [dI nums] [] (.row 0 3 0 (md nums).length) [.rows 34 3 ((md nums).map encDO)] := ⟨nums, rfl, rfl, rfl, rfl⟩
set_option maxHeartbeats 4000000 in
theorem made_ok : Ok Try.prog 10 madeS := by
  refine fn_ok madeS Try.func10 rfl rfl ?_
  rintro args ins res outs ⟨l, rfl, rfl, rfl, rfl⟩
  refine ⟨by simp [Try.ntmps10], fun w0 V Bo mu0 => ?_⟩
  repeat' (first
    | (with_reducible first | refine W_seq ?_ | refine W_condT rfl ?_ | refine W_condF rfl ?_ | refine W_tf rfl (fun h => ?_) (fun h => ?_) | refine W_block ?_ | refine W_scope ?_ | refine endQ_ret ?_ | refine endQ_normal ?_)
    | ((with_reducible first | refine hK _ ?_ | refine hK _ _ ?_); clear hK K)
    | ((first | (with_reducible first | refine ops_cons (fun K hK => ?_) | refine opsd_cons (fun K hK => ?_) | refine ops_nil ?_ | refine fit_i64 (by omega) ?_ | refine fit_u8 (by omega) ?_ | refine fit_u64 (by omega) ?_ | refine fit_u32 (by omega) ?_ | refine fit_any ?_ | refine quo_nn (by omega) ?_ | refine rem_nn (by omega) ?_ | refine quo_any ?_ | refine rem_any ?_ | refine sh_in (by simp only [IntKind.bits]; omega) ?_) | ((with_reducible refine opsd_nil ?_); refine And.intro (by kernel_rfl) ?_) | with_reducible refine callV_snap ?_ | (with_reducible first | refine slice_old ?_ | refine app_grow ?_ | refine idx_map (by omega) ?_ | refine W_reg [(0, [0]), (1, [0, 3]), (2, [0, 3, 4]), (3, [0, 3, 4, 5]), (4, [0, 3, 4, 5, 14]), (5, [0, 3, 4, 5]), (6, [0, 3, 4, 5, 6]), (7, [0, 3, 4, 5, 6]), (8, [0, 3, 4, 5]), (9, [2])] ?_ | refine W_drw [(0, [0]), (1, [0, 3]), (2, [0, 3, 4]), (3, [0, 3, 4, 5]), (4, [0, 3, 4, 5, 14]), (5, [0, 3, 4, 5]), (6, [0, 3, 4, 5, 6]), (7, [0, 3, 4, 5, 6]), (8, [0, 3, 4, 5]), (9, [2])] (by kernel_rfl) ?_ | refine W_label ?_ | refine W_skip ?_ | refine W_exit ?_ | refine W_ret ?_ | refine end_at0 ?_) | (with_reducible refine And.intro (fun h => ?_) (fun h => ?_)) | (with_reducible refine And.intro (by omega) ?_)); (try simp only [go_sem, Nat.reduceAdd, Nat.reduceSub, Nat.reduceMul, Nat.reduceDiv, Nat.reduceMod, Nat.reducePow, Nat.reduceLT, Nat.reduceEqDiff, Nat.reduceBEq, Nat.reduceLeDiff, reduceIte, reduceCtorEq, Int.reduceLT, Int.reduceLE, Int.reduceEq, Int.reduceNe, Int.reduceNeg, Int.reduceAdd, Int.reduceSub, Int.reduceMul, Int.reduceToNat, Int.reducePow, Int.reduceDiv, Int.reduceMod, Nat.reduceSucc, Try.ntmps10, Try.results10, madeS]))
    | fail)
  refine W_adopt 3 34 3 (by decide) (by simp [go_sem]) ?_
  refine W_loop (fun x : Nat × Int × List O => ⟨[(0, dI l), (3, .row 0 3 0 x.2.2.length), (4, wv x.2.1), (5, iv x.1)], [some (.rows 34 3 (x.2.2.map encDO))]⟩)
    (fun x => x.1 ≤ l.length ∧ x.1 ≤ 40 ∧ x.2.2.length = x.1 ∧ 0 ≤ x.2.1 ∧ x.2.1 ≤ 5 * x.1 ∧ x.2.2 ++ mdG x.2.1 x.1 ((l.take 40).drop x.1) = md l) (fun x => 40 - x.1) (0, 0, []) ⟨Nat.zero_le _, Nat.zero_le _, rfl, Int.le_refl _, Int.le_refl _, rfl⟩ [0] ?_ ?_
  · simp [go_sem]
  rintro ⟨k, a, acc⟩ ⟨hk, hk40, hal, a0, a1, hgo⟩
  dsimp only at hk hk40 hal a0 a1 hgo
  by_cases hlt : k < l.length
  · have hki : (k : Int) < l.length := by omega
    by_cases h40 : k < 40
    · have hk4 : (k : Int) < 40 := by omega
      have hg : (l.take 40)[k]'(by simp; omega) = l[k] := by simp
      rw [drop_get (l.take 40) k (by simp; omega), hg] at hgo
      simp only [mdG] at hgo
      have m0 : 0 ≤ l[k] % 1048576 := by omega
      have m1 : l[k] % 1048576 < 1048576 := by omega
      have m2 : 0 ≤ l[k] % 1048576 / 3 := by omega
      have m3 : 0 ≤ l[k] % 1048576 / 3 % 5 := by omega
      repeat' (first
        | (with_reducible first | refine W_seq ?_ | refine W_condT rfl ?_ | refine W_condF rfl ?_ | refine W_tf rfl (fun h => ?_) (fun h => ?_) | refine W_block ?_ | refine W_scope ?_ | refine endQ_ret ?_ | refine endQ_normal ?_)
        | ((with_reducible first | refine hK _ ?_ | refine hK _ _ ?_); clear hK K)
        | ((with_reducible refine And.intro (encO.rows _) ?_))
        | ((first | (with_reducible first | refine ops_cons (fun K hK => ?_) | refine opsd_cons (fun K hK => ?_) | refine ops_nil ?_ | refine fit_i64 (by omega) ?_ | refine fit_u8 (by omega) ?_ | refine fit_u64 (by omega) ?_ | refine fit_u32 (by omega) ?_ | refine fit_any ?_ | refine quo_nn (by omega) ?_ | refine rem_nn (by omega) ?_ | refine quo_any ?_ | refine rem_any ?_ | refine sh_in (by simp only [IntKind.bits]; omega) ?_) | ((with_reducible refine opsd_nil ?_); refine And.intro (by kernel_rfl) ?_) | with_reducible refine callV_snap ?_ | ((with_reducible refine call_go ModS Mod_ok ?_); refine ⟨(by first | exact alOk_nil _ | exact alOk_f rfl), _, _, Mod_at _ _ (by omega) (by omega), ?_⟩) | (with_reducible first | refine slice_old ?_ | refine app_grow ?_ | refine idx_map (by omega) ?_ | refine W_reg [(0, [0]), (1, [0, 3]), (2, [0, 3, 4]), (3, [0, 3, 4, 5]), (4, [0, 3, 4, 5, 14]), (5, [0, 3, 4, 5]), (6, [0, 3, 4, 5, 6]), (7, [0, 3, 4, 5, 6]), (8, [0, 3, 4, 5]), (9, [2])] ?_ | refine W_drw [(0, [0]), (1, [0, 3]), (2, [0, 3, 4]), (3, [0, 3, 4, 5]), (4, [0, 3, 4, 5, 14]), (5, [0, 3, 4, 5]), (6, [0, 3, 4, 5, 6]), (7, [0, 3, 4, 5, 6]), (8, [0, 3, 4, 5]), (9, [2])] (by kernel_rfl) ?_ | refine W_label ?_ | refine W_skip ?_ | refine W_exit ?_ | refine W_ret ?_ | refine end_at0 ?_) | (with_reducible refine And.intro (fun h => ?_) (fun h => ?_)) | (with_reducible refine And.intro (by omega) ?_)); (try simp only [go_sem, Nat.reduceAdd, Nat.reduceSub, Nat.reduceMul, Nat.reduceDiv, Nat.reduceMod, Nat.reducePow, Nat.reduceLT, Nat.reduceEqDiff, Nat.reduceBEq, Nat.reduceLeDiff, reduceIte, reduceCtorEq, Int.reduceLT, Int.reduceLE, Int.reduceEq, Int.reduceNe, Int.reduceNeg, Int.reduceAdd, Int.reduceSub, Int.reduceMul, Int.reduceToNat, Int.reducePow, Int.reduceDiv, Int.reduceMod, Nat.reduceSucc, encDI, hki, hk4, Try.ntmps10, Try.results10, madeS]))
        | fail)
      refine ⟨(k + 1, a + 1 + l[k] % 1048576 / 3 % 5, acc ++ [(1 + l[k] % 1048576 % 3, a + 1 + l[k] % 1048576 / 3 % 5, (37 * (k : Int) + 5) % 1000)]), [2], ⟨by dsimp only; omega, by dsimp only; omega, by simp [hal], by dsimp only; omega, by dsimp only; omega, by simpa using hgo⟩, by dsimp only; omega, ?_⟩
      simp [go_sem, encDO]
    · have hk4 : ¬ (k : Int) < 40 := by omega
      have : (l.take 40).drop k = [] := List.drop_eq_nil_of_le (by simp; omega)
      rw [this] at hgo
      simp only [mdG, List.append_nil] at hgo
      rw [← hgo]
      have hfl := encO.flat acc
      repeat' (first
        | (with_reducible first | refine W_seq ?_ | refine W_condT rfl ?_ | refine W_condF rfl ?_ | refine W_tf rfl (fun h => ?_) (fun h => ?_) | refine W_block ?_ | refine W_scope ?_ | refine endQ_ret ?_ | refine endQ_normal ?_)
        | ((with_reducible first | refine hK _ ?_ | refine hK _ _ ?_); clear hK K)
        | ((first | (with_reducible first | refine ops_cons (fun K hK => ?_) | refine opsd_cons (fun K hK => ?_) | refine ops_nil ?_ | refine fit_i64 (by omega) ?_ | refine fit_u8 (by omega) ?_ | refine fit_u64 (by omega) ?_ | refine fit_u32 (by omega) ?_ | refine fit_any ?_ | refine quo_nn (by omega) ?_ | refine rem_nn (by omega) ?_ | refine quo_any ?_ | refine rem_any ?_ | refine sh_in (by simp only [IntKind.bits]; omega) ?_) | ((with_reducible refine opsd_nil ?_); refine And.intro (by kernel_rfl) ?_) | with_reducible refine callV_snap ?_ | (with_reducible first | refine slice_old ?_ | refine app_grow ?_ | refine idx_map (by omega) ?_ | refine W_reg [(0, [0]), (1, [0, 3]), (2, [0, 3, 4]), (3, [0, 3, 4, 5]), (4, [0, 3, 4, 5, 14]), (5, [0, 3, 4, 5]), (6, [0, 3, 4, 5, 6]), (7, [0, 3, 4, 5, 6]), (8, [0, 3, 4, 5]), (9, [2])] ?_ | refine W_drw [(0, [0]), (1, [0, 3]), (2, [0, 3, 4]), (3, [0, 3, 4, 5]), (4, [0, 3, 4, 5, 14]), (5, [0, 3, 4, 5]), (6, [0, 3, 4, 5, 6]), (7, [0, 3, 4, 5, 6]), (8, [0, 3, 4, 5]), (9, [2])] (by kernel_rfl) ?_ | refine W_label ?_ | refine W_skip ?_ | refine W_exit ?_ | refine end_at0 ?_) | (with_reducible refine And.intro (fun h => ?_) (fun h => ?_)) | (with_reducible refine And.intro (by omega) ?_)); (try simp only [go_sem, Nat.reduceAdd, Nat.reduceSub, Nat.reduceMul, Nat.reduceDiv, Nat.reduceMod, Nat.reducePow, Nat.reduceLT, Nat.reduceEqDiff, Nat.reduceBEq, Nat.reduceLeDiff, reduceIte, reduceCtorEq, Int.reduceLT, Int.reduceLE, Int.reduceEq, Int.reduceNe, Int.reduceNeg, Int.reduceAdd, Int.reduceSub, Int.reduceMul, Int.reduceToNat, Int.reducePow, Int.reduceDiv, Int.reduceMod, Nat.reduceSucc, hki, hk4, Try.ntmps10, Try.results10, madeS]))
        | fail)
      refine W_ret (endQ_ret (end_at [0] ?_))
      simp [go_sem, Try.results10, madeS]
      simpa [flatD, encDO] using hfl
  · have hki : ¬ (k : Int) < l.length := by omega
    have : (l.take 40).drop k = [] := List.drop_eq_nil_of_le (by simp; omega)
    rw [this] at hgo
    simp only [mdG, List.append_nil] at hgo
    rw [← hgo]
    have hfl := encO.flat acc
    repeat' (first
      | (with_reducible first | refine W_seq ?_ | refine W_condT rfl ?_ | refine W_condF rfl ?_ | refine W_tf rfl (fun h => ?_) (fun h => ?_) | refine W_block ?_ | refine W_scope ?_ | refine endQ_ret ?_ | refine endQ_normal ?_)
      | ((with_reducible first | refine hK _ ?_ | refine hK _ _ ?_); clear hK K)
      | ((first | (with_reducible first | refine ops_cons (fun K hK => ?_) | refine opsd_cons (fun K hK => ?_) | refine ops_nil ?_ | refine fit_i64 (by omega) ?_ | refine fit_u8 (by omega) ?_ | refine fit_u64 (by omega) ?_ | refine fit_u32 (by omega) ?_ | refine fit_any ?_ | refine quo_nn (by omega) ?_ | refine rem_nn (by omega) ?_ | refine quo_any ?_ | refine rem_any ?_ | refine sh_in (by simp only [IntKind.bits]; omega) ?_) | ((with_reducible refine opsd_nil ?_); refine And.intro (by kernel_rfl) ?_) | with_reducible refine callV_snap ?_ | (with_reducible first | refine slice_old ?_ | refine app_grow ?_ | refine idx_map (by omega) ?_ | refine W_reg [(0, [0]), (1, [0, 3]), (2, [0, 3, 4]), (3, [0, 3, 4, 5]), (4, [0, 3, 4, 5, 14]), (5, [0, 3, 4, 5]), (6, [0, 3, 4, 5, 6]), (7, [0, 3, 4, 5, 6]), (8, [0, 3, 4, 5]), (9, [2])] ?_ | refine W_drw [(0, [0]), (1, [0, 3]), (2, [0, 3, 4]), (3, [0, 3, 4, 5]), (4, [0, 3, 4, 5, 14]), (5, [0, 3, 4, 5]), (6, [0, 3, 4, 5, 6]), (7, [0, 3, 4, 5, 6]), (8, [0, 3, 4, 5]), (9, [2])] (by kernel_rfl) ?_ | refine W_label ?_ | refine W_skip ?_ | refine W_exit ?_ | refine end_at0 ?_) | (with_reducible refine And.intro (fun h => ?_) (fun h => ?_)) | (with_reducible refine And.intro (by omega) ?_)); (try simp only [go_sem, Nat.reduceAdd, Nat.reduceSub, Nat.reduceMul, Nat.reduceDiv, Nat.reduceMod, Nat.reducePow, Nat.reduceLT, Nat.reduceEqDiff, Nat.reduceBEq, Nat.reduceLeDiff, reduceIte, reduceCtorEq, Int.reduceLT, Int.reduceLE, Int.reduceEq, Int.reduceNe, Int.reduceNeg, Int.reduceAdd, Int.reduceSub, Int.reduceMul, Int.reduceToNat, Int.reducePow, Int.reduceDiv, Int.reduceMod, Nat.reduceSucc, hki, Try.ntmps10, Try.results10, madeS]))
      | fail)
    refine W_ret (endQ_ret (end_at [0] ?_))
    simp [go_sem, Try.results10, madeS]
    simpa [flatD, encDO] using hfl
def madeFS : Spec := { al := true, rel := fun args ins res outs => ∃ nums : List Int, args = [dI nums] ∧ ins = [] ∧ res = dO (md nums) ∧ outs = [] }
theorem madeF_at (nums : List Int) : madeFS.rel [dI nums] [] (dO (md nums)) [] := ⟨nums, rfl, rfl, rfl, rfl⟩
theorem madeF_ok : Ok Try.prog 10 madeFS := by
  refine ok_frz made_ok madeFS rfl ?_
  rintro args ins res outs ⟨c, rfl, rfl, rfl, rfl⟩
  exact ⟨rfl, rfl, _, _, ⟨c, rfl, rfl, rfl, rfl⟩, by simp [frz, frzA, frz1, List.take_of_length_le]⟩
end Go.Proofs.Ytpkiabhlmjnemaa
