/- headgatelaw09.script, by the engine. -/
import Derived.Test.YtniiaaagammebaaBdAD
import Derived.Test.YtniiaaagammebaaBdAF
namespace Go.Proofs.Ytniiaaagammebaa
open Go.RowKit
set_option maxRecDepth 100000
set_option linter.unusedSimpArgs false
set_option linter.unusedVariables false

abbrev lv35BdAG : List (Nat × List Nat) := [(0, [0, 1, 4]), (1, [1, 4, 7, 8]), (2, [1, 4, 7, 26]), (3, [4, 5, 6]), (4, [1, 4, 7, 9]), (5, [1, 4, 7, 9, 10]), (6, [1, 4, 7, 9, 10, 35]), (7, [1, 4, 7, 9, 10]), (8, [1, 4, 7, 9, 10, 11]), (9, [1, 4, 7, 9, 10, 11, 12, 13]), (10, [1, 4, 7, 9, 10, 11, 12, 13, 14, 15, 16]), (11, [1, 4, 7, 9, 10, 11, 12, 14, 15, 16, 64]), (12, [4, 5, 6]), (13, [1, 4, 7, 9, 10, 11, 12, 14, 15, 16, 67]), (14, [1, 4, 7, 9, 10, 69]), (15, [4, 5, 6]), (16, [1, 4, 7, 9, 10, 11, 12, 14, 15, 17, 18]), (17, [1, 4, 7, 9, 10, 11, 14, 15, 84]), (18, [4, 5, 6]), (19, [1, 4, 7, 9, 10, 11, 15]), (20, [1, 4, 7, 9, 10]), (21, [4, 5, 6])]
def ModS : Spec := { rel := fun args ins res outs => ∃ n k : Int, 1 ≤ k ∧ k ≤ 9223372036854775807 ∧ args = [iv n, iv k] ∧ ins = [] ∧ res = iv (n % k) ∧ outs = [] }
theorem Mod_at (n k : Int) (h1 : 1 ≤ k) (h2 : k ≤ 9223372036854775807) : ModS.rel [iv n, iv k] [] (iv (n % k)) [] := ⟨n, k, h1, h2, rfl, rfl, rfl, rfl⟩
theorem Mod_ok : Ok Try.prog 36 ModS := by
  refine ok_struct ⟨_, Try.func36, rfl, rfl⟩ ?_
  rintro args ins res outs ⟨n, k, h1, h2, rfl, rfl, rfl, rfl⟩
  exact ⟨rfl, rfl, rfl, rfl, fun w => (Mod_any n k w h1 h2).mono fun e w' ⟨h1, h2⟩ => ⟨h1, h2 ▸ Below.refl _ _⟩⟩
def scrG (N : Nat) : List Int → List Bl → List Bl → List Bl × List Bl
  | [], m, out => (m, out)
  | x :: r, m, out => match bestOf m (x % 5).toNat with
    | none => scrG N r m out
    | some b => scrG N r (bld N (frA m b.1 (x % 5).toNat)) (out ++ [(b.1, (x % 5).toNat)])
def scr (N : Nat) (nums : List Int) : List Bl × List Bl := scrG N (nums.take 30) (bld N (fl N)) []
theorem mst_none {m : List Bl} {k : Nat} (h : ∀ c ∈ m, c.2 < k) : mst m k = 0 := by
  unfold mst mstTo
  rw [List.take_length, List.sum_eq_zero_iff_forall_eq_nat]
  intro x hx
  obtain ⟨c, hc, rfl⟩ := List.mem_map.1 hx
  exact Nat.div_eq_of_lt (Nat.pow_lt_pow_right (by decide) (h c hc))
theorem bldG_cov {N : Nat} {f : Nat → Bool} : ∀ (n a : Nat), N ≤ a + n → ∀ i, (∃ b ∈ bldG N f n a, InB b i) ↔ a ≤ i ∧ i < N ∧ f i = true
  | 0, a, h, i => by simp [bldG]; omega
  | n + 1, a, h, i => by
    rw [bldG]
    by_cases hlt : a < N
    · rw [if_pos hlt]
      cases hf : f a with
      | true =>
        obtain ⟨b1, b2, b3⟩ := fitB_iff.1 (bst_fit (fit0 hlt hf) 7)
        generalize bst N f a 7 = o at *
        have ho := two_pos o
        have ih := bldG_cov (N := N) (f := f) n (a + 2 ^ o) (by omega) i
        rw [if_pos rfl]
        constructor
        · rintro ⟨b, hb, hi⟩
          rcases List.mem_cons.1 hb with rfl | hb
          · obtain ⟨i1, i2⟩ := hi
            dsimp only at i1 i2
            exact ⟨i1, by omega, b3 i i1 i2⟩
          · have := ih.1 ⟨b, hb, hi⟩
            exact ⟨by omega, this.2⟩
        · rintro ⟨i1, i2, i3⟩
          rcases Nat.lt_or_ge i (a + 2 ^ o) with hh | hh
          · exact ⟨(a, o), by simp, i1, hh⟩
          · obtain ⟨b, hb, hi⟩ := ih.2 ⟨hh, i2, i3⟩
            exact ⟨b, by simp [hb], hi⟩
      | false =>
        rw [if_neg (by simp), bldG_cov n (a + 1) (by omega) i]
        constructor
        · rintro ⟨i1, i2⟩; exact ⟨by omega, i2⟩
        · rintro ⟨i1, i2, i3⟩
          refine ⟨?_, i2, i3⟩
          rcases Nat.lt_or_ge a i with hh | hh
          · exact hh
          · have : i = a := by omega
            rw [this, hf] at i3; cases i3
    · rw [if_neg hlt]; simp; omega
theorem gv0 {N : Nat} (hN : N ≤ 256) : Gv N (bld N (fl N)) [] := by
  have hf : ∀ i, fl N i = true → i < N := fun i h => by simpa [fl] using h
  have hmem := fun b => bldG_mem (f := fl N) hf N 0 (by omega) (str_zero N (fl N)) b
  have hv : Vn N (bld N (fl N)) := by
    refine ⟨hN, fun b hb => ((hmem b).1 hb).2.1, (bldG_asc N 0).2, ?_⟩
    rintro a ha b hb ⟨g1, g2, g3, g4⟩
    obtain ⟨_, ⟨o1, o2, o3⟩, _, c3⟩ := (hmem a).1 ha
    obtain ⟨_, ⟨p1, p2, p3⟩, _, _⟩ := (hmem b).1 hb
    rcases c3 with c3 | c3
    · omega
    · apply c3
      intro i i1 i2
      have hs := two_succ a.2
      have hpr : pr a.1 a.2 ≤ a.1 := (pr_in o3).1
      rw [← g1] at p2
      simp [fl]; omega
  refine ⟨vn_vz hv, by simp, by simp, by simp, fun i hi => ?_⟩
  simp only [List.any_nil, Bool.not_false]
  rw [frM_iff]
  obtain ⟨b, hb, h1⟩ := (bldG_cov (N := N) (f := fl N) N 0 (by omega) i).2 ⟨Nat.zero_le _, hi, by simp [fl, hi]⟩
  exact ⟨b, hb, h1⟩
def scriptS : Spec := { al := true, rel := fun args ins res outs => ∃ (n : Int) (nums : List Int) (N : Nat), n % 257 = N ∧ args = [iv n, dI nums] ∧ ins = [] ∧ res = .tup [.agg [iv N, dN (scr N nums).1], .row 0 2 0 (scr N nums).2.length, bv true] ∧ outs = [.rows 50 2 ((scr N nums).2.map encN)] }
abbrev NMstS : Spec := MostS
theorem NMst_ok : Ok Try.prog 27 NMstS := Most_ok
set_option maxHeartbeats 8000000 in
theorem script_ok : Ok Try.prog 35 scriptS := by
  refine fn_ok scriptS Try.func35 rfl rfl ?_
  rintro args ins res outs ⟨n, nums, N, hn, rfl, rfl, rfl, rfl⟩
  refine ⟨by simp [Try.ntmps35], fun w0 V Bo mu0 => ?_⟩
  have hN : N ≤ 256 := by omega
  have NewF_at : NewFS.rel [iv N] [] (.tup [.agg [iv N, dN (bld N (fl N))], iv 0]) [] := ⟨rfl, rfl, _, _, .inr ⟨N, hN, rfl, rfl, rfl, rfl⟩, frz_z N _ _ [.int .i64 0] rfl⟩
  obtain ⟨R, hR⟩ : ∃ R, scr N nums = R := ⟨_, rfl⟩
  rw [hR]
  repeat' (first
    | (with_reducible first | refine W_seq ?_ | refine W_condT rfl ?_ | refine W_condF rfl ?_ | refine W_tf rfl (fun h => ?_) (fun h => ?_) | refine W_block ?_ | refine W_scope ?_ | refine endQ_ret ?_ | refine endQ_normal ?_)
    | ((with_reducible first | refine hK _ ?_ | refine hK _ _ ?_); clear hK K)
    | ((first | (with_reducible first | refine ops_cons (fun K hK => ?_) | refine opsd_cons (fun K hK => ?_) | refine ops_nil ?_ | refine fit_i64 (by omega) ?_ | refine fit_u8 (by omega) ?_ | refine fit_u64 (by omega) ?_ | refine fit_u32 (by omega) ?_ | refine fit_any ?_ | refine quo_nn (by omega) ?_ | refine rem_nn (by omega) ?_ | refine quo_any ?_ | refine rem_any ?_ | refine sh_in (by simp only [IntKind.bits]; omega) ?_) | ((with_reducible refine opsd_nil ?_); refine And.intro (by kernel_rfl) ?_) | with_reducible refine callV_snap ?_ | ((with_reducible refine call_go ModS Mod_ok ?_); refine ⟨(by first | exact alOk_nil _ | exact alOk_f rfl), _, _, Mod_at n 257 (by omega) (by omega), ?_⟩) | ((with_reducible refine call_go NewFS NewF_ok ?_); refine ⟨(by first | exact alOk_nil _ | exact alOk_f rfl), _, _, NewF_at , ?_⟩) | (with_reducible first | refine slice_old ?_ | refine app_grow ?_ | refine idx_map (by omega) ?_ | refine W_reg lv35BdAG ?_ | refine W_drw lv35BdAG (by kernel_rfl) ?_ | refine W_label ?_ | refine W_skip ?_ | refine W_exit ?_ | refine W_ret ?_ | refine end_at0 ?_) | (with_reducible refine And.intro (fun h => ?_) (fun h => ?_)) | (with_reducible refine And.intro (by omega) ?_)); (try simp only [go_sem, seval, reduceCtorEq, hn, lv35BdAG, Try.ntmps35, Try.results35, scriptS]))
    | fail)
  refine W_adopt 9 50 2 (by decide) (by simp [go_sem]) ?_
  refine W_loop (fun x : Nat × List Bl × List Bl => ⟨[(1, dI nums), (4, .ptr 0 0), (7, .ptr 1 0), (9, .row 2 2 0 x.2.2.length), (10, iv x.1)], [some (.box 24 [iv 0, .nil]), some (.box 24 [iv N, dN x.2.1]), some (.rows 50 2 (x.2.2.map encN))]⟩)
    (fun x => x.1 ≤ nums.length ∧ x.1 ≤ 30 ∧ x.2.2.length ≤ x.1 ∧ Gv N x.2.1 x.2.2 ∧ scrG N ((nums.take 30).drop x.1) x.2.1 x.2.2 = R) (fun x => 30 - x.1) (0, bld N (fl N), []) ⟨Nat.zero_le _, Nat.zero_le _, Nat.zero_le _, gv0 hN, hR⟩ [0, 1, 2] ?_ ?_
  · simp [go_sem]
  rintro ⟨i, m, out⟩ ⟨hi, hi30, hlen, hG, hgo⟩
  dsimp only at hi hi30 hlen hG hgo
  have hz := hG.z
  have ub := Try.underlying4
  by_cases hlt : i < nums.length ∧ i < 30
  · have hki : (i : Int) < nums.length := by omega
    have hk30 : (i : Int) < 30 := by omega
    have hg : (nums.take 30)[i]'(by simp; omega) = nums[i]'hlt.1 := by simp
    rw [drop_get (nums.take 30) i (by simp; omega), hg] at hgo
    obtain ⟨q, hq⟩ : ∃ q : Nat, (nums[i]'hlt.1) % 5 = q := ⟨((nums[i]'hlt.1) % 5).toNat, by omega⟩
    have hq4 : q ≤ 4 := by omega
    have hb0 : encDI (nums[i]'hlt.1) = [.int .i64 (nums[i]'hlt.1)] := rfl
    have Mst_at : MstS.rel [.agg [iv N, dN m], iv q] [] (.tup [iv (mst m q), iv 0]) [] := Most_at N m q hz (by omega)
    simp only [scrG] at hgo
    rw [hq, Int.toNat_natCast] at hgo
    cases hb : bestOf m q with
    | none =>
      rw [hb] at hgo
      have hno := bestOf_none hb
      have h0 : (mst m q : Int) = 0 := by rw [mst_none hno]; rfl
      have AllocF_at : AllocFS.rel [.agg [iv N, dN m], iv q] [] (.tup [.agg [iv 0, dN []], iv 0, iv 5]) [] := ⟨rfl, rfl, _, _, .inr (.inl ⟨N, m, q, hz, by omega, hno, rfl, rfl, rfl, rfl⟩), frz_e [] _ [.int .i64 0, .int .i64 5] rfl⟩
      repeat' (first
        | (with_reducible first | refine W_seq ?_ | refine W_condT rfl ?_ | refine W_condF rfl ?_ | refine W_tf rfl (fun h => ?_) (fun h => ?_) | refine W_block ?_ | refine W_scope ?_ | refine endQ_ret ?_ | refine endQ_normal ?_)
        | ((with_reducible first | refine hK _ ?_ | refine hK _ _ ?_); clear hK K)
        | ((first | (with_reducible first | refine ops_cons (fun K hK => ?_) | refine opsd_cons (fun K hK => ?_) | refine ops_nil ?_ | refine fit_i64 (by omega) ?_ | refine fit_u8 (by omega) ?_ | refine fit_u64 (by omega) ?_ | refine fit_u32 (by omega) ?_ | refine fit_any ?_ | refine quo_nn (by omega) ?_ | refine rem_nn (by omega) ?_ | refine quo_any ?_ | refine rem_any ?_ | refine sh_in (by simp only [IntKind.bits]; omega) ?_) | ((with_reducible refine opsd_nil ?_); refine And.intro (by kernel_rfl) ?_) | with_reducible refine callV_snap ?_ | ((with_reducible refine call_go ModS Mod_ok ?_); refine ⟨(by first | exact alOk_nil _ | exact alOk_f rfl), _, _, Mod_at _ 5 (by omega) (by omega), ?_⟩) | ((with_reducible refine call_go MstS Mst_ok ?_); refine ⟨(by first | exact alOk_nil _ | exact alOk_f rfl), _, _, Mst_at , ?_⟩) | ((with_reducible refine call_go AllocFS AllocF_ok ?_); refine ⟨(by first | exact alOk_nil _ | exact alOk_f rfl), _, _, AllocF_at , ?_⟩) | (with_reducible first | refine slice_old ?_ | refine app_grow ?_ | refine idx_map (by omega) ?_ | refine W_reg lv35BdAG ?_ | refine W_drw lv35BdAG (by kernel_rfl) ?_ | refine W_label ?_ | refine W_skip ?_ | refine W_exit ?_ | refine W_ret ?_ | refine end_at0 ?_) | (with_reducible refine And.intro (fun h => ?_) (fun h => ?_)) | (with_reducible refine And.intro (by omega) ?_)); (try simp only [go_sem, seval, reduceCtorEq, hki, hk30, hb0, hq, h0, ub, beq_self_eq_true, lv35BdAG, Try.ntmps35, Try.results35, scriptS]))
        | fail)
      refine ⟨(i + 1, m, out), [0, 1, 2], ⟨by dsimp only; omega, by dsimp only; omega, by dsimp only; omega, hG, hgo⟩, by dsimp only; omega, ?_⟩
      simp [go_sem]
    | some b =>
      rw [hb] at hgo
      dsimp only at hgo
      have hbest := bestOf_some hb
      obtain ⟨hG2, hz2, hm⟩ := hG.step hq4 hbest
      have h0 : ¬ (mst m q : Int) = 0 := by omega
      have h1 : (0 : Int) < (mst m q : Int) := by omega
      have AllocF_at : AllocFS.rel [.agg [iv N, dN m], iv q] [] (.tup [.agg [iv N, dN (bld N (frA m b.1 q))], iv b.1, iv 0]) [] := alloc_at' hz (by omega) hbest rfl
      generalize bld N (frA m b.1 q) = m' at *
      have NMst_at : MstS.rel [.agg [iv N, dN m'], iv q] [] (.tup [iv (mst m' q), iv 0]) [] := Most_at N m' q hz2 (by omega)
      have hme : (mst m q : Int) - 1 = (mst m' q : Int) := by omega
      have hml : (mst m q : Int) ≤ 1000000 := by
        have h6 : ∀ b ∈ m, b.2 ≤ 6 := fun b hb => (hz.v.bls.rng b hb).2
        have := mstTo_le m q h6 m.length (Nat.le_refl _)
        have := hz.v.len
        unfold mst; omega
      repeat' (first
        | (with_reducible first | refine W_seq ?_ | refine W_condT rfl ?_ | refine W_condF rfl ?_ | refine W_tf rfl (fun h => ?_) (fun h => ?_) | refine W_block ?_ | refine W_scope ?_ | refine endQ_ret ?_ | refine endQ_normal ?_)
        | ((with_reducible first | refine hK _ ?_ | refine hK _ _ ?_); clear hK K)
        | ((with_reducible refine And.intro (encNe.rows _) ?_))
        | ((first | (with_reducible first | refine ops_cons (fun K hK => ?_) | refine opsd_cons (fun K hK => ?_) | refine ops_nil ?_ | refine fit_i64 (by omega) ?_ | refine fit_u8 (by omega) ?_ | refine fit_u64 (by omega) ?_ | refine fit_u32 (by omega) ?_ | refine fit_any ?_ | refine quo_nn (by omega) ?_ | refine rem_nn (by omega) ?_ | refine quo_any ?_ | refine rem_any ?_ | refine sh_in (by simp only [IntKind.bits]; omega) ?_) | ((with_reducible refine opsd_nil ?_); refine And.intro (by kernel_rfl) ?_) | with_reducible refine callV_snap ?_ | ((with_reducible refine call_go ModS Mod_ok ?_); refine ⟨(by first | exact alOk_nil _ | exact alOk_f rfl), _, _, Mod_at _ 5 (by omega) (by omega), ?_⟩) | ((with_reducible refine call_go MstS Mst_ok ?_); refine ⟨(by first | exact alOk_nil _ | exact alOk_f rfl), _, _, Mst_at , ?_⟩) | ((with_reducible refine call_go AllocFS AllocF_ok ?_); refine ⟨(by first | exact alOk_nil _ | exact alOk_f rfl), _, _, AllocF_at , ?_⟩) | ((with_reducible refine call_go NMstS NMst_ok ?_); refine ⟨(by first | exact alOk_nil _ | exact alOk_f rfl), _, _, NMst_at , ?_⟩) | (with_reducible first | refine slice_old ?_ | refine app_grow ?_ | refine idx_map (by omega) ?_ | refine W_reg lv35BdAG ?_ | refine W_drw lv35BdAG (by kernel_rfl) ?_ | refine W_label ?_ | refine W_skip ?_ | refine W_exit ?_ | refine W_ret ?_ | refine end_at0 ?_) | (with_reducible refine And.intro (fun h => ?_) (fun h => ?_)) | (with_reducible refine And.intro (by omega) ?_)); (try simp only [go_sem, seval, reduceCtorEq, hki, hk30, hb0, hq, h1, hme, ub, beq_self_eq_true, lv35BdAG, Try.ntmps35, Try.results35, scriptS]))
        | fail)
      refine ⟨(i + 1, m', out ++ [(b.1, q)]), [0, 1, 5], ⟨by dsimp only; omega, by dsimp only; omega, by simp; omega, hG2, hgo⟩, by dsimp only; omega, ?_⟩
      simp [go_sem, encN]
  · by_cases hl : i < nums.length
    · have hki : (i : Int) < nums.length := by omega
      have hk30 : ¬ (i : Int) < 30 := by omega
      rw [List.drop_eq_nil_of_le (by simp; omega)] at hgo
      simp only [scrG] at hgo
      rw [← hgo]
      repeat' (first
        | (with_reducible first | refine W_seq ?_ | refine W_condT rfl ?_ | refine W_condF rfl ?_ | refine W_tf rfl (fun h => ?_) (fun h => ?_) | refine W_block ?_ | refine W_scope ?_ | refine endQ_ret ?_ | refine endQ_normal ?_)
        | ((with_reducible first | refine hK _ ?_ | refine hK _ _ ?_); clear hK K)
        | ((first | (with_reducible first | refine ops_cons (fun K hK => ?_) | refine opsd_cons (fun K hK => ?_) | refine ops_nil ?_ | refine fit_i64 (by omega) ?_ | refine fit_u8 (by omega) ?_ | refine fit_u64 (by omega) ?_ | refine fit_u32 (by omega) ?_ | refine fit_any ?_ | refine quo_nn (by omega) ?_ | refine rem_nn (by omega) ?_ | refine quo_any ?_ | refine rem_any ?_ | refine sh_in (by simp only [IntKind.bits]; omega) ?_) | ((with_reducible refine opsd_nil ?_); refine And.intro (by kernel_rfl) ?_) | with_reducible refine callV_snap ?_ | (with_reducible first | refine slice_old ?_ | refine app_grow ?_ | refine idx_map (by omega) ?_ | refine W_reg lv35BdAG ?_ | refine W_drw lv35BdAG (by kernel_rfl) ?_ | refine W_label ?_ | refine W_skip ?_ | refine W_exit ?_ | refine end_at0 ?_) | (with_reducible refine And.intro (fun h => ?_) (fun h => ?_)) | (with_reducible refine And.intro (by omega) ?_)); (try simp only [go_sem, seval, reduceCtorEq, hki, hk30, lv35BdAG, Try.ntmps35, Try.results35, scriptS]))
        | fail)
      refine W_ret (endQ_ret (end_at [2] ?_))
      simp [go_sem, Try.results35, scriptS]
    · have hki : ¬ (i : Int) < nums.length := by omega
      rw [List.drop_eq_nil_of_le (by simp; omega)] at hgo
      simp only [scrG] at hgo
      rw [← hgo]
      repeat' (first
        | (with_reducible first | refine W_seq ?_ | refine W_condT rfl ?_ | refine W_condF rfl ?_ | refine W_tf rfl (fun h => ?_) (fun h => ?_) | refine W_block ?_ | refine W_scope ?_ | refine endQ_ret ?_ | refine endQ_normal ?_)
        | ((with_reducible first | refine hK _ ?_ | refine hK _ _ ?_); clear hK K)
        | ((first | (with_reducible first | refine ops_cons (fun K hK => ?_) | refine opsd_cons (fun K hK => ?_) | refine ops_nil ?_ | refine fit_i64 (by omega) ?_ | refine fit_u8 (by omega) ?_ | refine fit_u64 (by omega) ?_ | refine fit_u32 (by omega) ?_ | refine fit_any ?_ | refine quo_nn (by omega) ?_ | refine rem_nn (by omega) ?_ | refine quo_any ?_ | refine rem_any ?_ | refine sh_in (by simp only [IntKind.bits]; omega) ?_) | ((with_reducible refine opsd_nil ?_); refine And.intro (by kernel_rfl) ?_) | with_reducible refine callV_snap ?_ | (with_reducible first | refine slice_old ?_ | refine app_grow ?_ | refine idx_map (by omega) ?_ | refine W_reg lv35BdAG ?_ | refine W_drw lv35BdAG (by kernel_rfl) ?_ | refine W_label ?_ | refine W_skip ?_ | refine W_exit ?_ | refine end_at0 ?_) | (with_reducible refine And.intro (fun h => ?_) (fun h => ?_)) | (with_reducible refine And.intro (by omega) ?_)); (try simp only [go_sem, seval, reduceCtorEq, hki, lv35BdAG, Try.ntmps35, Try.results35, scriptS]))
        | fail)
      refine W_ret (endQ_ret (end_at [2] ?_))
      simp [go_sem, Try.results35, scriptS]
end Go.Proofs.Ytniiaaagammebaa
