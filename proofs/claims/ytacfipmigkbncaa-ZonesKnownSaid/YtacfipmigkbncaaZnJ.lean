/- Two zones made of numbers, by the engine. -/
import Derived.Test.YtacfipmigkbncaaZnI
namespace Go.Proofs.Ytacfipmigkbncaa
open Go.RowKit
set_option maxRecDepth 100000
set_option linter.unusedSimpArgs false
set_option linter.unusedVariables false

abbrev lv34ZnJ : List (Nat × List Nat) := [(0, [0, 2]), (1, [0, 2, 5]), (2, [0, 2, 6, 7]), (3, [0, 2, 6, 7, 8]), (4, [0, 2, 6, 7, 8, 9]), (5, [0, 2, 6, 7, 8, 9, 42]), (6, [0, 2, 6, 7, 8, 9]), (7, [0, 2, 6, 7, 8, 9, 10]), (8, [0, 2, 6, 7, 8, 9, 10, 11, 12, 13]), (9, [0, 2, 6, 7, 8, 9, 10, 11, 12, 62]), (10, [0, 2, 6, 7, 8, 9, 10]), (11, [0, 2, 6, 7, 8, 9, 10, 79]), (12, [0, 2, 6, 7, 8, 9, 14]), (13, [0, 2, 6, 7, 8, 9, 14, 15, 16]), (14, [0, 2, 6, 7, 8, 9, 14, 15, 101]), (15, [2, 3, 4]), (16, [0, 2, 6, 7, 8, 9]), (17, [2, 3, 4])]
def AtZS : Spec := { rel := fun args ins res outs => ∃ (l : List Int) (i : Nat), args = [dI l, iv i] ∧ ins = [] ∧ res = iv (l[i]?.getD 0) ∧ outs = [] }
theorem AtZ_ok : Ok Try.prog 65 AtZS := by
  refine fn_ok AtZS Try.func65 rfl rfl ?_
  rintro args ins res outs ⟨l, i, rfl, rfl, rfl, rfl⟩
  refine ⟨by simp [Try.ntmps65], fun w0 V Bo mu0 => ?_⟩
  have h0 : ¬ (i : Int) < 0 := by omega
  by_cases hlt : i < l.length
  · have hi : ¬ (l.length : Int) ≤ i := by omega
    have e : l[i]?.getD 0 = l[i] := by simp [hlt]
    repeat' (first
      | (with_reducible first | refine W_seq ?_ | refine W_condT rfl ?_ | refine W_condF rfl ?_ | refine W_tf rfl (fun h => ?_) (fun h => ?_) | refine endQ_ret ?_ | refine endQ_normal ?_)
      | ((with_reducible first | refine hK _ ?_ | refine hK _ _ ?_); clear hK K)
      | ((first | (with_reducible first | refine ops_cons (fun K hK => ?_) | refine ops_nil ?_) | with_reducible refine callV_snap ?_ | (with_reducible first | refine idx_map (by omega) ?_ | refine W_reg [(0, [0, 1]), (1, [0, 1, 12]), (2, [4]), (3, [4])] ?_ | refine W_skip ?_ | refine W_ret ?_ | refine end_at0 ?_) | (with_reducible refine And.intro (fun h => ?_) (fun h => ?_)) | (with_reducible refine And.intro (by omega) ?_)); (try simp only [go_sem, seval, reduceCtorEq, h0, hi, e, encDI, Try.ntmps65, Try.results65, AtZS]))
      | fail)
  · have hi : (l.length : Int) ≤ i := by omega
    have e : l[i]?.getD 0 = 0 := by simp [hlt]
    repeat' (first
      | (with_reducible first | refine W_seq ?_ | refine W_condT rfl ?_ | refine W_condF rfl ?_ | refine W_tf rfl (fun h => ?_) (fun h => ?_) | refine endQ_ret ?_ | refine endQ_normal ?_)
      | ((with_reducible first | refine hK _ ?_ | refine hK _ _ ?_); clear hK K)
      | ((first | (with_reducible first | refine ops_cons (fun K hK => ?_) | refine ops_nil ?_) | with_reducible refine callV_snap ?_ | (with_reducible first | refine idx_map (by omega) ?_ | refine W_reg [(0, [0, 1]), (1, [0, 1, 12]), (2, [4]), (3, [4])] ?_ | refine W_skip ?_ | refine W_ret ?_ | refine end_at0 ?_) | (with_reducible refine And.intro (fun h => ?_) (fun h => ?_)) | (with_reducible refine And.intro (by omega) ?_)); (try simp only [go_sem, seval, reduceCtorEq, h0, hi, e, encDI, Try.ntmps65, Try.results65, AtZS]))
      | fail)
abbrev AtZ1S : Spec := AtZS
theorem AtZ1_ok : Ok Try.prog 65 AtZ1S := AtZ_ok
theorem AtZ_at (l : List Int) : AtZS.rel [dI l, iv 0] [] (iv (l[0]?.getD 0)) [] := ⟨l, 0, rfl, rfl, rfl, rfl⟩
theorem AtZ1_at (l : List Int) : AtZ1S.rel [dI l, iv 1] [] (iv (l[1]?.getD 0)) [] := ⟨l, 1, rfl, rfl, rfl, rfl⟩

abbrev St3 := Zn × Zn × List Bl
def madA (s : St3) (k : Nat) : St3 := match alcZ s.1 s.2.1 (k % 3) ((k / 3 % 2 : Nat) : Int) with
  | none => s
  | some r => (r.1, r.2.1, s.2.2 ++ [(r.2.2, k % 3)])
def madF (s : St3) (k : Nat) : St3 := if h : 0 < s.2.2.length ∧ k / 6 % 4 = 0 then
    ((frE2 s.1 s.2.1 (s.2.2[k / 24 % s.2.2.length]'(Nat.mod_lt _ h.1)).1 (s.2.2[k / 24 % s.2.2.length]'(Nat.mod_lt _ h.1)).2).1, (frE2 s.1 s.2.1 (s.2.2[k / 24 % s.2.2.length]'(Nat.mod_lt _ h.1)).1 (s.2.2[k / 24 % s.2.2.length]'(Nat.mod_lt _ h.1)).2).2,
      s.2.2.take (k / 24 % s.2.2.length) ++ s.2.2.drop (k / 24 % s.2.2.length + 1)) else s
def madG : List Int → St3 → St3
  | [], s => s
  | x :: l, s => madG l (madF (madA s (x % 1048576).toNat) (x % 1048576).toNat)
def Gs (s : St3) : Prop := Gz s.1 s.2.1 s.2.2
theorem madA_gz {s : St3} (h : Gs s) (k : Nat) : Gs (madA s k) ∧ (madA s k).1.1 = s.1.1 ∧ (madA s k).2.2.length ≤ s.2.2.length + 1 := by
  unfold madA
  split
  · exact ⟨h, rfl, Nat.le_succ _⟩
  · rename_i r hr
    exact ⟨Gz.alloc h (by omega) hr, (alc_law h.v (by omega) hr).ea, by simp⟩
theorem madF_gz {s : St3} (h : Gs s) (k : Nat) : Gs (madF s k) ∧ (madF s k).1.1 = s.1.1 ∧ (madF s k).2.2.length ≤ s.2.2.length := by
  unfold madF
  split
  · rename_i hc
    obtain ⟨g1, g2⟩ := Gz.at h (Nat.mod_lt (k / 24) hc.1)
    exact ⟨g2, (frE2_v h.v g1).2, by simp; have := Nat.mod_lt (k / 24) hc.1; omega⟩
  · exact ⟨h, rfl, Nat.le_refl _⟩
theorem madG_gz : ∀ (l : List Int) {s : St3}, Gs s → Gs (madG l s) ∧ (madG l s).1.1 = s.1.1
  | [], s, h => ⟨h, rfl⟩
  | x :: l, s, h => by
    obtain ⟨a1, a2, _⟩ := madA_gz h (x % 1048576).toNat
    obtain ⟨f1, f2, _⟩ := madF_gz a1 (x % 1048576).toNat
    obtain ⟨g1, g2⟩ := madG_gz l f1
    exact ⟨g1, by rw [madG, g2, f2, a2]⟩
def fr0 (nums : List Int) : Nat := 8 + ((nums[0]?.getD 0) % 33).toNat
def lw0 (nums : List Int) : Nat := 1 + ((nums[1]?.getD 0) % (fr0 nums : Int)).toNat
def mad (nums : List Int) : St3 := madG ((nums.take 20).drop 2) (newZ (lw0 nums), newZ (fr0 nums - lw0 nums), [])
theorem lw_le (nums : List Int) : lw0 nums ≤ fr0 nums ∧ 1 ≤ lw0 nums ∧ 8 ≤ fr0 nums ∧ fr0 nums ≤ 40 := by
  have h1 : 8 ≤ fr0 nums := Nat.le_add_right _ _
  have h2 : fr0 nums ≤ 40 := by unfold fr0; omega
  have := Int.emod_lt_of_pos (nums[1]?.getD 0) (show (0 : Int) < (fr0 nums : Int) by omega)
  have := Int.emod_nonneg (nums[1]?.getD 0) (show (fr0 nums : Int) ≠ 0 by omega)
  unfold lw0
  omega
theorem mad_gz (nums : List Int) : Gs (mad nums) ∧ (mad nums).1.1 = lw0 nums := by
  obtain ⟨h1, h2, h3, h4⟩ := lw_le nums
  have := madG_gz ((nums.take 20).drop 2) (s := (newZ (lw0 nums), newZ (fr0 nums - lw0 nums), [])) (Gz.new (by omega) (by omega))
  exact this
def madS : Spec := { al := true, rel := fun args ins res outs => ∃ (nums : List Int) (a b : Zn) (out : List Bl), mad nums = (a, b, out) ∧ args = [dI nums] ∧ ins = [] ∧ res = .tup [zzn a.1 a b, .row 0 2 0 out.length, bv true] ∧ outs = [.rows 87 2 (out.map encN)] }
set_option maxHeartbeats 8000000 in
theorem mad_ok : Ok Try.prog 34 madS := by
  refine fn_ok madS Try.func34 rfl rfl ?_
  rintro args ins res outs ⟨nums, a, b, out, hR, rfl, rfl, rfl, rfl⟩
  refine ⟨by simp [Try.ntmps34], fun w0 V Bo mu0 => ?_⟩
  obtain ⟨l1, l2, l3, l4⟩ := lw_le nums
  have a0 : (nums[0]?.getD 0) % 33 = ((fr0 nums : Int) - 8) := by unfold fr0; omega
  have hF : (0 : Int) < (fr0 nums : Int) := by omega
  have a1 : (nums[1]?.getD 0) % (fr0 nums : Int) = ((lw0 nums : Int) - 1) := by
    have := Int.emod_nonneg (nums[1]?.getD 0) (show (fr0 nums : Int) ≠ 0 by omega)
    unfold lw0; omega
  have hG0 : Gs (newZ (lw0 nums), newZ (fr0 nums - lw0 nums), []) := Gz.new (by omega) (by omega)
  have hA0 := newz_at (N := lw0 nums) (M := fr0 nums - lw0 nums) (by omega) (by omega)
  rw [show lw0 nums + (fr0 nums - lw0 nums) = fr0 nums by omega] at hA0
  have NewZF_at : NewZFS.rel [iv (fr0 nums), iv (lw0 nums)] [] (.tup [zzn (lw0 nums) (newZ (lw0 nums)) (newZ (fr0 nums - lw0 nums)), iv 0]) [] := hA0
  unfold mad at hR
  have hlw : (newZ (lw0 nums)).1 = lw0 nums := rfl
  generalize newZ (lw0 nums) = za at *
  generalize newZ (fr0 nums - lw0 nums) = zb at *
  have e8 : (8 : Int) + ((fr0 nums : Int) - 8) = (fr0 nums : Int) := by omega
  have e1 : (1 : Int) + ((lw0 nums : Int) - 1) = (lw0 nums : Int) := by omega
  generalize fr0 nums = N0 at *
  generalize lw0 nums = N1 at *
  subst hlw
  repeat' (first
    | (with_reducible first | refine W_seq ?_ | refine W_condT rfl ?_ | refine W_condF rfl ?_ | refine W_tf rfl (fun h => ?_) (fun h => ?_) | refine W_block ?_ | refine endQ_ret ?_ | refine endQ_normal ?_)
    | ((with_reducible first | refine hK _ ?_ | refine hK _ _ ?_); clear hK K)
    | ((first | (with_reducible first | refine ops_cons (fun K hK => ?_) | refine opsd_cons (fun K hK => ?_) | refine ops_nil ?_ | refine fit_i64 (by omega) ?_ | refine fit_any ?_ | refine quo_nn (by omega) ?_ | refine rem_nn (by omega) ?_ | refine quo_any ?_ | refine rem_any ?_) | ((with_reducible refine opsd_nil ?_); refine And.intro (by kernel_rfl) ?_) | with_reducible refine callV_snap ?_ | ((with_reducible refine call_go AtZS AtZ_ok ?_); refine ⟨(by first | exact alOk_nil _ | exact alOk_f rfl), _, _, AtZ_at nums, ?_⟩) | ((with_reducible refine call_go AtZ1S AtZ1_ok ?_); refine ⟨(by first | exact alOk_nil _ | exact alOk_f rfl), _, _, AtZ1_at nums, ?_⟩) | ((with_reducible refine call_go ModS Mod_ok ?_); refine ⟨(by first | exact alOk_nil _ | exact alOk_f rfl), _, _, Mod_at _ 33 (by omega) (by omega), ?_⟩) | ((with_reducible refine call_go ModS Mod_ok ?_); refine ⟨(by first | exact alOk_nil _ | exact alOk_f rfl), _, _, Mod_at _ (N0 : Int) hF (by omega), ?_⟩) | ((with_reducible refine call_go NewZFS NewZF_ok ?_); refine ⟨(by first | exact alOk_nil _ | exact alOk_f rfl), _, _, NewZF_at , ?_⟩) | (with_reducible first | refine slice_old ?_ | refine app_grow ?_ | refine idx_map (by omega) ?_ | refine W_reg lv34ZnJ ?_ | refine W_drw lv34ZnJ (by kernel_rfl) ?_ | refine W_skip ?_ | refine W_exit ?_ | refine W_ret ?_ | refine end_at0 ?_) | (with_reducible refine And.intro (fun h => ?_) (fun h => ?_)) | (with_reducible refine And.intro (by omega) ?_)); (try simp only [go_sem, seval, reduceCtorEq, a0, a1, e8, e1, lv34ZnJ, Try.ntmps34, Try.results34, madS]))
    | fail)
  refine W_adopt 8 87 2 (by decide) (by simp [go_sem]) ?_
  refine W_loop (fun x : Nat × St3 => ⟨[(0, dI nums), (2, .ptr 0 0), (6, .ptr 1 0), (7, iv 0), (8, .row 2 2 0 x.2.2.2.length), (9, iv ((x.1 + 2 : Nat) : Int))], [some (.box 24 [iv 0, .nil]), some (.box 24 [iv (x.2.1.1 : Int), .d (.sl [[.int .i64 (x.2.1.1 : Int), .sl (x.2.1.2.map encN)], [.int .i64 (x.2.2.1.1 : Int), .sl (x.2.2.1.2.map encN)]])]), some (.rows 87 2 (x.2.2.2.map encN))]⟩)
    (fun x => x.1 ≤ 18 ∧ x.2.2.2.length ≤ x.1 ∧ Gs x.2 ∧ madG (((nums.take 20).drop 2).drop x.1) x.2 = (a, b, out)) (fun x => 18 - x.1) (0, (za, zb, [])) ⟨Nat.zero_le _, Nat.le_refl _, hG0, by simpa using hR⟩ [0, 1, 2] ?_ ?_
  · simp [go_sem]
  rintro ⟨j, a1, b1, l⟩ ⟨hj, hll, hg, hgo⟩
  dsimp only at hj hll hg hgo
  clear hG0 NewZF_at hA0 hR a0
  have hv : Vzz a1 b1 := hg.v
  by_cases hlt : j < ((nums.take 20).drop 2).length
  · have hln : j + 2 < nums.length ∧ j + 2 < 20 := by simp at hlt; omega
    have hki : ((j + 2 : Nat) : Int) < nums.length := by omega
    have hk20 : ((j + 2 : Nat) : Int) < 20 := by omega
    rw [drop_get _ j hlt, show ((nums.take 20).drop 2)[j] = nums[j + 2]'hln.1 by simp [Nat.add_comm], madG] at hgo
    have eb0 : encDI (nums[j + 2]'hln.1) = [.int .i64 (nums[j + 2]'hln.1)] := rfl
    obtain ⟨k, hk⟩ : ∃ k : Nat, (nums[j + 2]'hln.1) % 1048576 = k := ⟨((nums[j + 2]'hln.1) % 1048576).toNat, by omega⟩
    rw [hk, Int.toNat_natCast] at hgo
    have hk6 : k < 1048576 := by omega
    have hm3 : (k : Int) % 3 = ((k % 3 : Nat) : Int) := by omega
    have hm2 : (k : Int) / 3 % 2 = ((k / 3 % 2 : Nat) : Int) := by omega
    have hm6 : (k : Int) / 6 % 4 = ((k / 6 % 4 : Nat) : Int) := by omega
    have hm24 : (k : Int) / 24 = ((k / 24 : Nat) : Int) := by omega
    have hP : ((k / 3 % 2 : Nat) : Int) = 0 ∨ ((k / 3 % 2 : Nat) : Int) = 1 := by omega
    have hq : k % 3 ≤ 6 := by omega
    have hnx : ((j + 2 : Nat) : Int) + 1 = ((j + 1 + 2 : Nat) : Int) := by omega
    cases hr : alcZ a1 b1 (k % 3) ((k / 3 % 2 : Nat) : Int) with
    | none =>
      have zAllF_at : zAllFS.rel [zzn a1.1 a1 b1, iv ((k % 3 : Nat) : Int), iv ((k / 3 % 2 : Nat) : Int)] [] (.tup [.agg [iv 0, .d (.sl [])], iv 0, iv 5]) [] := by
        have := zall_at hv hq hP
        rwa [hr] at this
      have hA : madA (a1, b1, l) k = (a1, b1, l) := by unfold madA; rw [hr]
      rw [hA] at hgo
      by_cases h0 : l.length = 0
      · have hF : madF (a1, b1, l) k = (a1, b1, l) := by unfold madF; rw [dif_neg (by rintro ⟨h, _⟩; dsimp only at h; omega)]
        rw [hF] at hgo
        have h0i : ¬ (0 : Int) < l.length := by omega
        repeat' (first
          | (with_reducible first | refine W_seq ?_ | refine W_condT rfl ?_ | refine W_condF rfl ?_ | refine W_tf rfl (fun h => ?_) (fun h => ?_) | refine W_block ?_ | refine endQ_ret ?_ | refine endQ_normal ?_)
          | ((with_reducible first | refine hK _ ?_ | refine hK _ _ ?_); clear hK K)
          | ((first | (with_reducible first | refine ops_cons (fun K hK => ?_) | refine opsd_cons (fun K hK => ?_) | refine ops_nil ?_ | refine fit_i64 (by omega) ?_ | refine fit_any ?_ | refine quo_nn (by omega) ?_ | refine rem_nn (by omega) ?_ | refine quo_any ?_ | refine rem_any ?_) | ((with_reducible refine opsd_nil ?_); refine And.intro (by kernel_rfl) ?_) | with_reducible refine callV_snap ?_ | ((with_reducible refine call_go ModS Mod_ok ?_); refine ⟨(by first | exact alOk_nil _ | exact alOk_f rfl), _, _, Mod_at _ 1048576 (by omega) (by omega), ?_⟩) | ((with_reducible refine call_go zAllFS zAllF_ok ?_); refine ⟨(by first | exact alOk_nil _ | exact alOk_f rfl), _, _, zAllF_at , ?_⟩) | (with_reducible first | refine slice_old ?_ | refine app_grow ?_ | refine idx_map (by omega) ?_ | refine W_reg lv34ZnJ ?_ | refine W_drw lv34ZnJ (by kernel_rfl) ?_ | refine W_skip ?_ | refine W_exit ?_ | refine W_ret ?_ | refine end_at0 ?_) | (with_reducible refine And.intro (fun h => ?_) (fun h => ?_)) | (with_reducible refine And.intro (by omega) ?_)); (try simp only [go_sem, seval, reduceCtorEq, hki, hk20, eb0, hk, hm3, hm2, hm6, hm24, h0i, hnx, lv34ZnJ, Try.ntmps34, Try.results34, madS]))
          | fail)
        refine ⟨(j + 1, a1, b1, l), [0, 1, 2], ⟨by dsimp only; omega, by dsimp only; omega, hg, hgo⟩, by dsimp only; omega, ?_⟩
        simp [go_sem]
      · have h0i : (0 : Int) < l.length := by omega
        by_cases h6 : k / 6 % 4 = 0
        · have hg2 : Gz a1 b1 l := hg
          have hlp : 0 < l.length := by omega
          obtain ⟨x, hx⟩ : ∃ x : Nat, k / 24 % l.length = x := ⟨_, rfl⟩
          have hxl : x < l.length := by rw [← hx]; exact Nat.mod_lt _ hlp
          have hmod : ((k / 24 : Nat) : Int) % (l.length : Int) = (x : Int) := by rw [← hx]; norm_cast
          have hF : madF (a1, b1, l) k = ((frE2 a1 b1 l[x].1 l[x].2).1, (frE2 a1 b1 l[x].1 l[x].2).2, l.take x ++ l.drop (x + 1)) := by
            unfold madF
            rw [dif_pos ⟨hlp, h6⟩]
            simp only [hx]
          obtain ⟨hin, hg3⟩ := Gz.at hg2 hxl
          have hv3 := (frE2_v hg2.v hin).2
          have zFrF_at := zfr_at hg2.v hin
          rw [hF] at hgo
          have e0 : encN l[x] = [.int .i64 (l[x].1 : Int), .int .i64 (l[x].2 : Int)] := rfl
          generalize (frE2 a1 b1 l[x].1 l[x].2).1 = A2 at *
          generalize (frE2 a1 b1 l[x].1 l[x].2).2 = B2 at *
          have htk : (List.take x (List.map encN l)).length = x := by simp; omega
          have hdl : (List.drop (x + 1) (List.map encN l)).length = l.length - (x + 1) := by simp
          have hk1 : (x : Int) + 1 = ((x + 1 : Nat) : Int) := by omega
          have hdt : List.take (l.length - (x + 1)) (List.drop (x + 1) (List.map encN l)) = List.drop (x + 1) (List.map encN l) := List.take_of_length_le (by simp)
          have htt : List.take x (List.take x (List.map encN l)) = List.take x (List.map encN l) := by rw [List.take_take, Nat.min_self]
          have hl2 : (l.take x ++ l.drop (x + 1)).length = x + (l.length - (x + 1)) := by simp; omega
          have h6i : ((k / 6 % 4 : Nat) : Int) = 0 := by omega
          repeat' (first
            | (with_reducible first | refine W_seq ?_ | refine W_condT rfl ?_ | refine W_condF rfl ?_ | refine W_tf rfl (fun h => ?_) (fun h => ?_) | refine W_block ?_ | refine endQ_ret ?_ | refine endQ_normal ?_)
            | ((with_reducible first | refine hK _ ?_ | refine hK _ _ ?_); clear hK K)
            | ((first | (with_reducible first | refine ops_cons (fun K hK => ?_) | refine opsd_cons (fun K hK => ?_) | refine ops_nil ?_ | refine fit_i64 (by omega) ?_ | refine fit_any ?_ | refine quo_nn (by omega) ?_ | refine rem_nn (by omega) ?_ | refine quo_any ?_ | refine rem_any ?_) | ((with_reducible refine opsd_nil ?_); refine And.intro (by kernel_rfl) ?_) | with_reducible refine callV_snap ?_ | ((with_reducible refine call_go ModS Mod_ok ?_); refine ⟨(by first | exact alOk_nil _ | exact alOk_f rfl), _, _, Mod_at _ 1048576 (by omega) (by omega), ?_⟩) | ((with_reducible refine call_go zAllFS zAllF_ok ?_); refine ⟨(by first | exact alOk_nil _ | exact alOk_f rfl), _, _, zAllF_at , ?_⟩) | ((with_reducible refine call_go zFrFS zFrF_ok ?_); refine ⟨(by first | exact alOk_nil _ | exact alOk_f rfl), _, _, zFrF_at , ?_⟩) | (with_reducible first | refine slice_old ?_ | refine app_grow ?_ | refine idx_map (by omega) ?_ | refine W_reg lv34ZnJ ?_ | refine W_drw lv34ZnJ (by kernel_rfl) ?_ | refine W_skip ?_ | refine W_exit ?_ | refine W_ret ?_ | refine end_at0 ?_) | (with_reducible refine And.intro (fun h => ?_) (fun h => ?_)) | (with_reducible refine And.intro (by omega) ?_)); (try simp only [go_sem, seval, reduceCtorEq, hki, hk20, eb0, hk, hm3, hm2, hm6, hm24, h0i, h6i, hnx, hmod, e0, htk, hdl, hdt, htt, hk1, lv34ZnJ, Try.ntmps34, Try.results34, madS]))
            | fail)
          refine ⟨(j + 1, A2, B2, l.take x ++ l.drop (x + 1)), [0, 1, 7], ⟨by dsimp only; omega, by dsimp only; rw [hl2]; omega, hg3, hgo⟩, by dsimp only; omega, ?_⟩
          simp only [hl2]
          simp [go_sem, hv3]
        · have hF : madF (a1, b1, l) k = (a1, b1, l) := by unfold madF; rw [dif_neg (by rintro ⟨_, h⟩; exact h6 h)]
          rw [hF] at hgo
          have h6i : ¬ ((k / 6 % 4 : Nat) : Int) = 0 := by omega
          repeat' (first
            | (with_reducible first | refine W_seq ?_ | refine W_condT rfl ?_ | refine W_condF rfl ?_ | refine W_tf rfl (fun h => ?_) (fun h => ?_) | refine W_block ?_ | refine endQ_ret ?_ | refine endQ_normal ?_)
            | ((with_reducible first | refine hK _ ?_ | refine hK _ _ ?_); clear hK K)
            | ((first | (with_reducible first | refine ops_cons (fun K hK => ?_) | refine opsd_cons (fun K hK => ?_) | refine ops_nil ?_ | refine fit_i64 (by omega) ?_ | refine fit_any ?_ | refine quo_nn (by omega) ?_ | refine rem_nn (by omega) ?_ | refine quo_any ?_ | refine rem_any ?_) | ((with_reducible refine opsd_nil ?_); refine And.intro (by kernel_rfl) ?_) | with_reducible refine callV_snap ?_ | ((with_reducible refine call_go ModS Mod_ok ?_); refine ⟨(by first | exact alOk_nil _ | exact alOk_f rfl), _, _, Mod_at _ 1048576 (by omega) (by omega), ?_⟩) | ((with_reducible refine call_go zAllFS zAllF_ok ?_); refine ⟨(by first | exact alOk_nil _ | exact alOk_f rfl), _, _, zAllF_at , ?_⟩) | (with_reducible first | refine slice_old ?_ | refine app_grow ?_ | refine idx_map (by omega) ?_ | refine W_reg lv34ZnJ ?_ | refine W_drw lv34ZnJ (by kernel_rfl) ?_ | refine W_skip ?_ | refine W_exit ?_ | refine W_ret ?_ | refine end_at0 ?_) | (with_reducible refine And.intro (fun h => ?_) (fun h => ?_)) | (with_reducible refine And.intro (by omega) ?_)); (try simp only [go_sem, seval, reduceCtorEq, hki, hk20, eb0, hk, hm3, hm2, hm6, hm24, h0i, h6i, hnx, lv34ZnJ, Try.ntmps34, Try.results34, madS]))
            | fail)
          refine ⟨(j + 1, a1, b1, l), [0, 1, 2], ⟨by dsimp only; omega, by dsimp only; omega, hg, hgo⟩, by dsimp only; omega, ?_⟩
          simp [go_sem]
    | some r =>
      have zAllF_at : zAllFS.rel [zzn a1.1 a1 b1, iv ((k % 3 : Nat) : Int), iv ((k / 3 % 2 : Nat) : Int)] [] (.tup [zzn a1.1 r.1 r.2.1, iv r.2.2, iv 0]) [] := by
        have := zall_at hv hq hP
        rwa [hr] at this
      have hA : madA (a1, b1, l) k = (r.1, r.2.1, l ++ [(r.2.2, k % 3)]) := by unfold madA; rw [hr]
      have hg1 := madA_gz hg k
      rw [hA] at hgo hg1
      obtain ⟨hg2, he1, _⟩ := hg1
      dsimp only at he1
      have happ : (l.map encN) ++ [[.int .i64 (r.2.2 : Int), .int .i64 ((k % 3 : Nat) : Int)]] = (l ++ [(r.2.2, k % 3)]).map encN := by simp [encN]
      have hlen' : (l ++ [(r.2.2, k % 3)]).length = l.length + 1 := by simp
      generalize l ++ [(r.2.2, k % 3)] = l' at *
      generalize r.1 = A at *
      generalize r.2.1 = B at *
      generalize r.2.2 = w at *
      have h0i : (0 : Int) < (l'.length : Int) := by omega
      have hlw : l.length + 1 = l'.length := hlen'.symm
      by_cases h6 : k / 6 % 4 = 0
      · have hg2 : Gz A B l' := hg2
        have hlp : 0 < l'.length := by omega
        obtain ⟨x, hx⟩ : ∃ x : Nat, k / 24 % l'.length = x := ⟨_, rfl⟩
        have hxl : x < l'.length := by rw [← hx]; exact Nat.mod_lt _ hlp
        have hmod : ((k / 24 : Nat) : Int) % (l'.length : Int) = (x : Int) := by rw [← hx]; norm_cast
        have hF : madF (A, B, l') k = ((frE2 A B l'[x].1 l'[x].2).1, (frE2 A B l'[x].1 l'[x].2).2, l'.take x ++ l'.drop (x + 1)) := by
          unfold madF
          rw [dif_pos ⟨hlp, h6⟩]
          simp only [hx]
        obtain ⟨hin, hg3⟩ := Gz.at hg2 hxl
        have hv3 := (frE2_v hg2.v hin).2
        have zFrF_at := zfr_at hg2.v hin
        rw [hF] at hgo
        have e0 : encN l'[x] = [.int .i64 (l'[x].1 : Int), .int .i64 (l'[x].2 : Int)] := rfl
        generalize (frE2 A B l'[x].1 l'[x].2).1 = A2 at *
        generalize (frE2 A B l'[x].1 l'[x].2).2 = B2 at *
        have htk : (List.take x (List.map encN l')).length = x := by simp; omega
        have hdl : (List.drop (x + 1) (List.map encN l')).length = l'.length - (x + 1) := by simp
        have hk1 : (x : Int) + 1 = ((x + 1 : Nat) : Int) := by omega
        have hdt : List.take (l'.length - (x + 1)) (List.drop (x + 1) (List.map encN l')) = List.drop (x + 1) (List.map encN l') := List.take_of_length_le (by simp)
        have htt : List.take x (List.take x (List.map encN l')) = List.take x (List.map encN l') := by rw [List.take_take, Nat.min_self]
        have hl2 : (l'.take x ++ l'.drop (x + 1)).length = x + (l'.length - (x + 1)) := by simp; omega
        have h6i : ((k / 6 % 4 : Nat) : Int) = 0 := by omega
        rw [he1] at zFrF_at
        repeat' (first
          | (with_reducible first | refine W_seq ?_ | refine W_condT rfl ?_ | refine W_condF rfl ?_ | refine W_tf rfl (fun h => ?_) (fun h => ?_) | refine W_block ?_ | refine endQ_ret ?_ | refine endQ_normal ?_)
          | ((with_reducible first | refine hK _ ?_ | refine hK _ _ ?_); clear hK K)
          | ((first | (with_reducible first | refine ops_cons (fun K hK => ?_) | refine opsd_cons (fun K hK => ?_) | refine ops_nil ?_ | refine fit_i64 (by omega) ?_ | refine fit_any ?_ | refine quo_nn (by omega) ?_ | refine rem_nn (by omega) ?_ | refine quo_any ?_ | refine rem_any ?_) | ((with_reducible refine opsd_nil ?_); refine And.intro (by kernel_rfl) ?_) | with_reducible refine callV_snap ?_ | ((with_reducible refine call_go ModS Mod_ok ?_); refine ⟨(by first | exact alOk_nil _ | exact alOk_f rfl), _, _, Mod_at _ 1048576 (by omega) (by omega), ?_⟩) | ((with_reducible refine call_go zAllFS zAllF_ok ?_); refine ⟨(by first | exact alOk_nil _ | exact alOk_f rfl), _, _, zAllF_at , ?_⟩) | ((with_reducible refine call_go zFrFS zFrF_ok ?_); refine ⟨(by first | exact alOk_nil _ | exact alOk_f rfl), _, _, zFrF_at , ?_⟩) | (with_reducible first | refine slice_old ?_ | refine app_grow ?_ | refine idx_map (by omega) ?_ | refine W_reg lv34ZnJ ?_ | refine W_drw lv34ZnJ (by kernel_rfl) ?_ | refine W_skip ?_ | refine W_exit ?_ | refine W_ret ?_ | refine end_at0 ?_) | (with_reducible refine And.intro (fun h => ?_) (fun h => ?_)) | (with_reducible refine And.intro (by omega) ?_)); (try simp only [go_sem, seval, reduceCtorEq, hki, hk20, eb0, hk, hm3, hm2, hm6, hm24, hlw, happ, h0i, h6i, hnx, hmod, e0, htk, hdl, hdt, htt, hk1, lv34ZnJ, Try.ntmps34, Try.results34, madS]))
          | fail)
        refine ⟨(j + 1, A2, B2, l'.take x ++ l'.drop (x + 1)), [0, 1, 9], ⟨by dsimp only; omega, by dsimp only; rw [hl2]; omega, hg3, hgo⟩, by dsimp only; omega, ?_⟩
        simp only [hl2]
        simp [go_sem, hv3, he1]
      · have hF : madF (A, B, l') k = (A, B, l') := by unfold madF; rw [dif_neg (by rintro ⟨_, h⟩; exact h6 h)]
        rw [hF] at hgo
        have h6i : ¬ ((k / 6 % 4 : Nat) : Int) = 0 := by omega
        repeat' (first
          | (with_reducible first | refine W_seq ?_ | refine W_condT rfl ?_ | refine W_condF rfl ?_ | refine W_tf rfl (fun h => ?_) (fun h => ?_) | refine W_block ?_ | refine endQ_ret ?_ | refine endQ_normal ?_)
          | ((with_reducible first | refine hK _ ?_ | refine hK _ _ ?_); clear hK K)
          | ((with_reducible refine And.intro (encNe.rows _) ?_))
          | ((first | (with_reducible first | refine ops_cons (fun K hK => ?_) | refine opsd_cons (fun K hK => ?_) | refine ops_nil ?_ | refine fit_i64 (by omega) ?_ | refine fit_any ?_ | refine quo_nn (by omega) ?_ | refine rem_nn (by omega) ?_ | refine quo_any ?_ | refine rem_any ?_) | ((with_reducible refine opsd_nil ?_); refine And.intro (by kernel_rfl) ?_) | with_reducible refine callV_snap ?_ | ((with_reducible refine call_go ModS Mod_ok ?_); refine ⟨(by first | exact alOk_nil _ | exact alOk_f rfl), _, _, Mod_at _ 1048576 (by omega) (by omega), ?_⟩) | ((with_reducible refine call_go zAllFS zAllF_ok ?_); refine ⟨(by first | exact alOk_nil _ | exact alOk_f rfl), _, _, zAllF_at , ?_⟩) | (with_reducible first | refine slice_old ?_ | refine app_grow ?_ | refine idx_map (by omega) ?_ | refine W_reg lv34ZnJ ?_ | refine W_drw lv34ZnJ (by kernel_rfl) ?_ | refine W_skip ?_ | refine W_exit ?_ | refine W_ret ?_ | refine end_at0 ?_) | (with_reducible refine And.intro (fun h => ?_) (fun h => ?_)) | (with_reducible refine And.intro (by omega) ?_)); (try simp only [go_sem, seval, reduceCtorEq, hki, hk20, eb0, hk, hm3, hm2, hm6, hm24, hlw, happ, h0i, h6i, hnx, lv34ZnJ, Try.ntmps34, Try.results34, madS]))
          | fail)
        refine ⟨(j + 1, A, B, l'), [0, 1, 5], ⟨by dsimp only; omega, by dsimp only; omega, hg2, hgo⟩, by dsimp only; omega, ?_⟩
        simp [go_sem, he1]
  · rw [List.drop_eq_nil_of_le (by omega), madG] at hgo
    injection hgo with e1 e2
    injection e2 with e2 e3
    subst e1 e2 e3
    by_cases hln : j + 2 < nums.length
    · have hki : ((j + 2 : Nat) : Int) < nums.length := by omega
      have hk20 : ¬ ((j + 2 : Nat) : Int) < 20 := by simp at hlt; omega
      repeat' (first
        | (with_reducible first | refine W_seq ?_ | refine W_condT rfl ?_ | refine W_condF rfl ?_ | refine W_tf rfl (fun h => ?_) (fun h => ?_) | refine W_block ?_ | refine endQ_ret ?_ | refine endQ_normal ?_)
        | ((with_reducible first | refine hK _ ?_ | refine hK _ _ ?_); clear hK K)
        | ((first | (with_reducible first | refine ops_cons (fun K hK => ?_) | refine opsd_cons (fun K hK => ?_) | refine ops_nil ?_ | refine fit_i64 (by omega) ?_ | refine fit_any ?_ | refine quo_nn (by omega) ?_ | refine rem_nn (by omega) ?_ | refine quo_any ?_ | refine rem_any ?_) | ((with_reducible refine opsd_nil ?_); refine And.intro (by kernel_rfl) ?_) | with_reducible refine callV_snap ?_ | ((with_reducible refine call_go CkvS Ckv_ok ?_); refine ⟨(by first | exact alOk_nil _ | exact alOk_f rfl), _, _, Ckv_at hv, ?_⟩) | (with_reducible first | refine slice_old ?_ | refine app_grow ?_ | refine idx_map (by omega) ?_ | refine W_reg lv34ZnJ ?_ | refine W_drw lv34ZnJ (by kernel_rfl) ?_ | refine W_skip ?_ | refine W_exit ?_ | refine end_at0 ?_) | (with_reducible refine And.intro (fun h => ?_) (fun h => ?_)) | (with_reducible refine And.intro (by omega) ?_)); (try simp only [go_sem, seval, reduceCtorEq, hki, hk20, lv34ZnJ, Try.ntmps34, Try.results34, madS]))
        | fail)
      refine W_ret (endQ_ret (end_at [2] ?_))
      simp [go_sem, Try.results34, madS]
    · have hki : ¬ ((j + 2 : Nat) : Int) < nums.length := by omega
      repeat' (first
        | (with_reducible first | refine W_seq ?_ | refine W_condT rfl ?_ | refine W_condF rfl ?_ | refine W_tf rfl (fun h => ?_) (fun h => ?_) | refine W_block ?_ | refine endQ_ret ?_ | refine endQ_normal ?_)
        | ((with_reducible first | refine hK _ ?_ | refine hK _ _ ?_); clear hK K)
        | ((first | (with_reducible first | refine ops_cons (fun K hK => ?_) | refine opsd_cons (fun K hK => ?_) | refine ops_nil ?_ | refine fit_i64 (by omega) ?_ | refine fit_any ?_ | refine quo_nn (by omega) ?_ | refine rem_nn (by omega) ?_ | refine quo_any ?_ | refine rem_any ?_) | ((with_reducible refine opsd_nil ?_); refine And.intro (by kernel_rfl) ?_) | with_reducible refine callV_snap ?_ | ((with_reducible refine call_go CkvS Ckv_ok ?_); refine ⟨(by first | exact alOk_nil _ | exact alOk_f rfl), _, _, Ckv_at hv, ?_⟩) | (with_reducible first | refine slice_old ?_ | refine app_grow ?_ | refine idx_map (by omega) ?_ | refine W_reg lv34ZnJ ?_ | refine W_drw lv34ZnJ (by kernel_rfl) ?_ | refine W_skip ?_ | refine W_exit ?_ | refine end_at0 ?_) | (with_reducible refine And.intro (fun h => ?_) (fun h => ?_)) | (with_reducible refine And.intro (by omega) ?_)); (try simp only [go_sem, seval, reduceCtorEq, hki, lv34ZnJ, Try.ntmps34, Try.results34, madS]))
        | fail)
      refine W_ret (endQ_ret (end_at [2] ?_))
      simp [go_sem, Try.results34, madS]
end Go.Proofs.Ytacfipmigkbncaa
