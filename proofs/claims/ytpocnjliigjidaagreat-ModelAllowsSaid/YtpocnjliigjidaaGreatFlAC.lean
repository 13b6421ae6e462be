import Derived.Test.YtpocnjliigjidaaGreatFlAB
import Derived.Test.YtpocnjliigjidaaGreatFlAA
/- A flat memory: the specification's put and Write, by the engine. -/
namespace Go.Proofs.YtpocnjliigjidaaGreat
open Go.RowKit
set_option maxRecDepth 100000
set_option linter.unusedSimpArgs false
set_option linter.unusedVariables false
abbrev lv128FlAC : List (Nat × List Nat) := [(0, [1, 2, 3, 4, 5, 10]), (1, [1, 2, 3, 4, 5, 10, 13]), (2, [1, 2, 3, 4, 5, 10, 13, 26]), (3, [10, 11]), (4, [1, 2, 3, 4, 5, 10, 14]), (5, [1, 2, 3, 4, 5, 10, 14]), (6, [1, 2, 3, 4, 5, 10, 14, 15]), (7, [1, 2, 3, 4, 5, 10, 14, 15, 36]), (8, [1, 2, 3, 4, 5, 10, 14, 15]), (9, [1, 2, 3, 4, 5, 10, 14, 15, 16]), (10, [1, 2, 3, 4, 5, 10, 14, 15, 16, 61]), (11, [1, 2, 3, 4, 5, 10, 14, 15]), (12, [1, 2, 3, 4, 10, 14, 69]), (13, [10, 14]), (14, [10, 11])]
abbrev lv152FlAC : List (Nat × List Nat) := [(0, [2, 3, 4]), (1, [2, 3, 4, 5]), (2, [2, 3, 4, 5, 6]), (3, [2, 3, 4, 5, 6, 22]), (4, [2, 3, 4, 5, 6]), (5, [4, 5]), (6, [4])]
theorem tw_at {α : Type} (p : α → Bool) : ∀ l : List α, (∀ i (h : i < l.length), i < (l.takeWhile p).length → p l[i] = true) ∧ (∀ h : (l.takeWhile p).length < l.length, p l[(l.takeWhile p).length] = false) ∧ l.take (l.takeWhile p).length = l.takeWhile p ∧ l.drop (l.takeWhile p).length = l.dropWhile p ∧ (l.takeWhile p).length ≤ l.length
  | [] => by simp
  | a :: l => by
    obtain ⟨h1, h2, h3, h4, h5⟩ := tw_at p l
    by_cases ha : p a = true
    · rw [List.takeWhile_cons_of_pos ha, List.dropWhile_cons_of_pos ha]
      refine ⟨fun i h hi => ?_, fun h => ?_, by simp [h3], by simp [h4], by simp [h5]⟩
      · cases i with
        | zero => exact ha
        | succ i => exact h1 i (by simpa using h) (by simpa using hi)
      · have h' : (l.takeWhile p).length < l.length := by simpa using h
        simpa using h2 h'
    · rw [List.takeWhile_cons_of_neg ha, List.dropWhile_cons_of_neg ha]
      refine ⟨fun i h hi => absurd hi (by simp), fun h => by simpa using ha, by simp, by simp, by simp⟩
def putS : Spec := { rel := fun args ins res outs => ∃ (al : List Bool) (mp : List Nat) (cs : List Cl) (c : Cl), al.length ≤ 1000000 ∧ mp.length ≤ 1000000 ∧ cs.length ≤ 900000 ∧ args = [fm al mp cs, cellA c] ∧ ins = [] ∧ res = fmR 0 1 2 al mp (putC cs c) ∧ outs = fmO al mp (putC cs c) }
theorem put_at (al : List Bool) (mp : List Nat) (cs : List Cl) (c : Cl) (h1 : al.length ≤ 1000000) (h2 : mp.length ≤ 1000000) (h3 : cs.length ≤ 900000) : putS.rel [fm al mp cs, cellA c] [] (fmR 0 1 2 al mp (putC cs c)) (fmO al mp (putC cs c)) := ⟨al, mp, cs, c, h1, h2, h3, rfl, rfl, rfl, rfl⟩
set_option maxHeartbeats 4000000 in
theorem put_ok : Ok Tryz.prog 152 putS := by
  refine fn_ok putS Tryz.func152 rfl rfl ?_
  rintro args ins res outs ⟨al, mp, cs, c, h1, h2, h3, rfl, rfl, rfl, rfl⟩
  refine ⟨by simp [Tryz.ntmps152], fun w0 V Bo mu0 => ?_⟩
  obtain ⟨t1, t2, t3, t4, t5⟩ := tw_at (fun x => decide (Bef x c)) cs
  have hpc : putC cs c = cs.take (cs.takeWhile (fun x => decide (Bef x c))).length ++ c :: cs.drop (cs.takeWhile (fun x => decide (Bef x c))).length := by rw [t3, t4]; rfl
  rw [hpc]
  clear hpc t3 t4
  generalize (cs.takeWhile (fun x => decide (Bef x c))).length = K at *
  obtain ⟨cp, cg, cw, cv⟩ := c
  repeat' (first | refine sA ?_ | with_reducible refine W_tf rfl (fun h => ?_) (fun h => ?_) | ((with_reducible first | refine hK _ ?_ | refine hK _ _ ?_); clear hK K) | ((first | refine sB ?_ | (with_reducible first | refine ops_cons (fun K hK => ?_) | refine opsd_cons (fun K hK => ?_) | refine W_reg lv152FlAC ?_ | refine W_drw lv152FlAC (by kernel_rfl) ?_) | ((with_reducible refine opsd_nil ?_); refine And.intro (by kernel_rfl) ?_) | with_reducible refine callV_snap ?_ | ((with_reducible refine call_go ownS own_ok ?_); refine ⟨alk, _, _, own_at al mp cs h1 h2 (by omega), ?_⟩) | with_reducible refine And.intro (fun h => ?_) (fun h => ?_) | with_reducible refine And.intro (by omega) ?_); (try simp only [go_sem, seval, reduceCtorEq, lv152FlAC, Tryz.ntmps152, Tryz.results152, putS])) | fail)
  refine W_loop (fun i : Nat => ⟨[(2, .ptr 0 0), (3, .ptr 1 0), (4, .ptr 2 0), (5, .ptr 6 0), (6, iv (i : Int))], [some (.box 38 [.d (.sl (al.map encDB)), .d (.sl (mp.map encU)), .d (.sl (cs.map encCl))]), some (.box 90 [iv cp, iv cg, iv cw, wv (cv : Int)]), some (.box 38 [.nil, .nil, .nil]), some (.rows 4 1 (al.map encDB)), some (.rows 24 1 (mp.map encU)), some (.rows 90 4 (cs.map encCl)), some (.box 38 [.row 3 1 0 al.length, .row 4 1 0 mp.length, .row 5 4 0 cs.length])]⟩)
    (fun i => i ≤ K) (fun i => K - i) 0 (Nat.zero_le _) [0, 1, 2, 3, 4, 5, 6] ?_ ?_
  · simp [go_sem]
  intro i hi
  by_cases hik : i < K
  · have hlt : i < cs.length := by omega
    have hki : (i : Int) < cs.length := by omega
    obtain ⟨b, hbq⟩ : ∃ b, cs[i] = b := ⟨_, rfl⟩
    have hB := t1 i hlt hik
    rw [hbq] at hB
    obtain ⟨bp, bg, bw, bv⟩ := b
    have e0 : encCl cs[i] = [.int .i64 bp, .int .i64 bg, .int .i64 bw, .int .u64 (bv : Int)] := by rw [hbq]; rfl
    repeat' (first | refine sA ?_ | with_reducible refine W_tf rfl (fun h => ?_) (fun h => ?_) | ((with_reducible first | refine hK _ ?_ | refine hK _ _ ?_); clear hK K) | ((first | refine sB ?_ | (with_reducible first | refine ops_cons (fun K hK => ?_) | refine opsd_cons (fun K hK => ?_) | refine W_reg lv152FlAC ?_ | refine W_drw lv152FlAC (by kernel_rfl) ?_) | ((with_reducible refine opsd_nil ?_); refine And.intro (by kernel_rfl) ?_) | with_reducible refine callV_snap ?_ | ((with_reducible refine call_go befS bef_ok ?_); refine ⟨alk, _, _, bef_at (bp, bg, bw, bv) (cp, cg, cw, cv), ?_⟩) | with_reducible refine And.intro (fun h => ?_) (fun h => ?_) | with_reducible refine And.intro (by omega) ?_); (try simp only [go_sem, seval, reduceCtorEq, hki, e0, hB, lv152FlAC, Tryz.ntmps152, Tryz.results152, putS])) | fail)
    refine ⟨i + 1, [0, 1, 2, 3, 4, 5, 6], by omega, by omega, ?_⟩
    simp [go_sem]
  · obtain rfl : i = K := by omega
    obtain ⟨A, hA⟩ : ∃ A, cs.take i = A := ⟨_, rfl⟩
    obtain ⟨B, hBd⟩ : ∃ B, cs.drop i = B := ⟨_, rfl⟩
    have hAl : A.length = i := by rw [← hA]; simp [t5]
    have hBl : B.length + i = cs.length := by rw [← hBd]; simp; omega
    have htk : (cs.map encCl).take i = A.map encCl := by rw [← hA]; exact List.map_take.symm
    have hdr : (cs.map encCl).drop i = B.map encCl := by rw [← hBd]; exact List.map_drop.symm
    have hdt : (B.map encCl).take (cs.length - i) = B.map encCl := List.take_of_length_le (by simp; omega)
    have hsn : A.map encCl ++ [[.int .i64 cp, .int .i64 cg, .int .i64 cw, .int .u64 (cv : Int)]] = (A ++ [(cp, cg, cw, cv)]).map encCl := by simp [encCl]
    have htt : ((A ++ [(cp, cg, cw, cv)]).map encCl).take (A.length + 1) = (A ++ [(cp, cg, cw, cv)]).map encCl := List.take_of_length_le (by simp)
    have hsl : (A ++ [(cp, cg, cw, cv)]).length = A.length + 1 := by simp
    have hal : (A ++ [(cp, cg, cw, cv)]).map encCl ++ B.map encCl = (A ++ (cp, cg, cw, cv) :: B).map encCl := by simp
    have hll : A.length + 1 + B.length = (A ++ (cp, cg, cw, cv) :: B).length := by simp; omega
    have fl1 := encB.flat al
    have fl2 := encUe.flat mp
    have fl3 := encCle.flat (A ++ (cp, cg, cw, cv) :: B)
    rw [hA, hBd]
    by_cases hlt : i < cs.length
    · have hki : (i : Int) < cs.length := by omega
      obtain ⟨b, hbq⟩ : ∃ b, cs[i] = b := ⟨_, rfl⟩
      have hB := t2 hlt
      rw [hbq] at hB
      obtain ⟨bp, bg, bw, bv⟩ := b
      have e0 : encCl cs[i] = [.int .i64 bp, .int .i64 bg, .int .i64 bw, .int .u64 (bv : Int)] := by rw [hbq]; rfl
      repeat' (first | refine sA ?_ | with_reducible refine W_tf rfl (fun h => ?_) (fun h => ?_) | ((with_reducible first | refine hK _ ?_ | refine hK _ _ ?_); clear hK K) | ((with_reducible refine And.intro (encCle.rows _) ?_)) | ((first | refine sC ?_ | (with_reducible first | refine ops_cons (fun K hK => ?_) | refine opsd_cons (fun K hK => ?_) | refine W_reg lv152FlAC ?_ | refine W_drw lv152FlAC (by kernel_rfl) ?_) | ((with_reducible refine opsd_nil ?_); refine And.intro (by kernel_rfl) ?_) | with_reducible refine callV_snap ?_ | ((with_reducible refine call_go befS bef_ok ?_); refine ⟨alk, _, _, bef_at (bp, bg, bw, bv) (cp, cg, cw, cv), ?_⟩) | with_reducible refine And.intro (fun h => ?_) (fun h => ?_) | with_reducible refine And.intro (by omega) ?_); (try simp only [go_sem, seval, reduceCtorEq, hki, e0, hB, Nat.sub_zero, htk, hdr, hdt, List.length_map, hsn, htt, hsl, hal, lv152FlAC, Tryz.ntmps152, Tryz.results152, putS])) | fail)
      refine W_ret (endQ_ret (end_at [3, 4, 11] ?_))
      simp [go_sem, Tryz.results152, putS]
      exact ⟨by omega, by simpa [flatD] using fl1, by simpa [flatD] using fl2, by simpa [flatD] using fl3⟩
    · have hki : ¬ (i : Int) < cs.length := by omega
      repeat' (first | refine sA ?_ | with_reducible refine W_tf rfl (fun h => ?_) (fun h => ?_) | ((with_reducible first | refine hK _ ?_ | refine hK _ _ ?_); clear hK K) | ((with_reducible refine And.intro (encCle.rows _) ?_)) | ((first | refine sC ?_ | (with_reducible first | refine ops_cons (fun K hK => ?_) | refine opsd_cons (fun K hK => ?_) | refine W_reg lv152FlAC ?_ | refine W_drw lv152FlAC (by kernel_rfl) ?_) | ((with_reducible refine opsd_nil ?_); refine And.intro (by kernel_rfl) ?_) | with_reducible refine callV_snap ?_ | with_reducible refine And.intro (fun h => ?_) (fun h => ?_) | with_reducible refine And.intro (by omega) ?_); (try simp only [go_sem, seval, reduceCtorEq, hki, Nat.sub_zero, htk, hdr, hdt, List.length_map, hsn, htt, hsl, hal, lv152FlAC, Tryz.ntmps152, Tryz.results152, putS])) | fail)
      refine W_ret (endQ_ret (end_at [3, 4, 11] ?_))
      simp [go_sem, Tryz.results152, putS]
      exact ⟨by omega, by simpa [flatD] using fl1, by simpa [flatD] using fl2, by simpa [flatD] using fl3⟩
abbrev rWrtS : Spec := WrtS
set_option maxHeartbeats 8000000 in
theorem rWrt_ok : Ok Tryz.prog 128 rWrtS := by
  refine fn_ok rWrtS Tryz.func128 rfl rfl ?_
  rintro args ins res outs (⟨al, mp, cs, p, g, w, v, hu, la, lm, lc, he, rfl, rfl, rfl, rfl⟩ | ⟨al, mp, cs, p, g, w, v, hu, lc, h0, rfl, rfl, rfl, rfl⟩)
  all_goals refine ⟨by simp [Tryz.ntmps128], fun w0 V Bo mu0 => ?_⟩
  · have rRd_at := rRd_at al mp cs p g w hu la lm lc
    generalize mapE al mp cs p g w = E at *
    rw [if_neg he] at rRd_at
    repeat' (first | refine sA ?_ | with_reducible refine W_tf rfl (fun h => ?_) (fun h => ?_) | ((with_reducible first | refine hK _ ?_ | refine hK _ _ ?_); clear hK K) | ((first | refine sB ?_ | (with_reducible first | refine ops_cons (fun K hK => ?_) | refine W_reg lv128FlAC ?_) | with_reducible refine callV_snap ?_ | ((with_reducible refine call_go rRdS rRd_ok ?_); refine ⟨alk, _, _, rRd_at , ?_⟩) | with_reducible refine And.intro (fun h => ?_) (fun h => ?_) | with_reducible refine And.intro (by omega) ?_); (try simp only [go_sem, seval, reduceCtorEq, he, lv128FlAC, Tryz.ntmps128, Tryz.results128, rWrtS])) | fail)
  · obtain ⟨z1, z2, z3, z4⟩ := mapE_zero h0
    have g0 := (lvs_zero z1).1
    obtain ⟨l1, l2⟩ := flchk_len g0
    have rRd_at := rRd_at al mp cs p g w hu (by omega) (by omega) (by omega)
    rw [h0, if_pos rfl] at rRd_at
    generalize rdV cs p g w.toNat = rv at *
    repeat' (first | refine sA ?_ | with_reducible refine W_tf rfl (fun h => ?_) (fun h => ?_) | ((with_reducible first | refine hK _ ?_ | refine hK _ _ ?_); clear hK K) | ((first | refine sB ?_ | (with_reducible first | refine ops_cons (fun K hK => ?_) | refine W_reg lv128FlAC ?_) | with_reducible refine callV_snap ?_ | ((with_reducible refine call_go rRdS rRd_ok ?_); refine ⟨alk, _, _, rRd_at , ?_⟩) | ((with_reducible refine call_go ownS own_ok ?_); refine ⟨alk, _, _, own_at al mp cs (by omega) (by omega) (by omega), ?_⟩) | with_reducible refine And.intro (fun h => ?_) (fun h => ?_) | with_reducible refine And.intro (by omega) ?_); (try simp only [go_sem, seval, reduceCtorEq, lv128FlAC, Tryz.ntmps128, Tryz.results128, rWrtS])) | fail)
    refine W_adoptC (t := 90) (sz := 4) 5 2 (by decide) (by simp only [go_sem, seval, reduceCtorEq]; rfl) rfl ?_
    refine W_loop (fun i : Nat => ⟨[(1, iv p), (2, iv g), (3, iv w), (4, wv (v : Int)), (5, .ptr 0 0), (10, .ptr 1 0), (14, .ptr 4 0), (15, iv (i : Int))], [some (.box 38 [.d (.sl (al.map encDB)), .d (.sl (mp.map encU)), .d (.sl (cs.map encCl))]), some (.box 38 [.nil, .nil, .nil]), some (.rows 4 1 (al.map encDB)), some (.rows 24 1 (mp.map encU)), some (.box 38 [.row 2 1 0 al.length, .row 3 1 0 mp.length, .row 5 4 0 (rmK (cs.take i) (p, g, w)).length]), some (.rows 90 4 ((rmK (cs.take i) (p, g, w)).map encCl))]⟩) (fun i => i ≤ cs.length) (fun i => cs.length - i) 0 (Nat.zero_le _) [0, 1, 2, 3, 5, 6] ?_ ?_
    · simp [go_sem, rmK]
    intro i hi
    by_cases hlt : i < cs.length
    · have hki : (i : Int) < cs.length := by omega
      have hlen : (rmK (cs.take i) (p, g, w)).length ≤ 1000000 := by
        have : (rmK (cs.take i) (p, g, w)).length ≤ (cs.take i).length := List.length_filter_le _ _
        rw [List.length_take] at this; omega
      obtain ⟨⟨cp, cg, cw, cv⟩, hc⟩ : ∃ c, cs[i] = c := ⟨_, rfl⟩
      have e0 : encCl cs[i] = [.int .i64 cp, .int .i64 cg, .int .i64 cw, .int .u64 (cv : Int)] := by rw [hc]; rfl
      have hst : rmK (cs.take (i + 1)) (p, g, w) = if (cp = p ∧ cg = g ∧ cw = w) then rmK (cs.take i) (p, g, w) else rmK (cs.take i) (p, g, w) ++ [(cp, cg, cw, cv)] := by
        unfold rmK
        rw [take_get cs i hlt, List.filter_append, hc]
        by_cases hq : cp = p ∧ cg = g ∧ cw = w
        · obtain ⟨rfl, rfl, rfl⟩ := hq; simp [ck3]
        · rw [if_neg hq]
          have : (ck3 (cp, cg, cw, cv) == (p, g, w)) = false := by
            simp only [ck3, beq_eq_false_iff_ne, ne_eq, Prod.mk.injEq]; exact hq
          simp [this]
      have htl : List.take (rmK (cs.take i) (p, g, w)).length (List.map encCl (rmK (cs.take i) (p, g, w))) = List.map encCl (rmK (cs.take i) (p, g, w)) := List.take_of_length_le (by simp)
      have keep : ¬ (cp = p ∧ cg = g ∧ cw = w) → (rmK (cs.take (i + 1)) (p, g, w)).length = (rmK (cs.take i) (p, g, w)).length + 1 ∧ (rmK (cs.take (i + 1)) (p, g, w)).map encCl = (rmK (cs.take i) (p, g, w)).map encCl ++ [[.int .i64 cp, .int .i64 cg, .int .i64 cw, .int .u64 (cv : Int)]] := by
        intro h
        rw [hst, if_neg h]
        simp [encCl]
      have drop' : (cp = p ∧ cg = g ∧ cw = w) → rmK (cs.take (i + 1)) (p, g, w) = rmK (cs.take i) (p, g, w) := by
        intro h
        rw [hst, if_pos h]
      generalize rmK (cs.take i) (p, g, w) = L at *
      by_cases c1 : cp = p
      · by_cases c2 : cg = g
        · by_cases c3 : cw = w
          · have k1 := drop' ⟨c1, c2, c3⟩
            repeat' (first | refine sA ?_ | with_reducible refine W_tf rfl (fun h => ?_) (fun h => ?_) | ((with_reducible first | refine hK _ ?_ | refine hK _ _ ?_); clear hK K) | ((first | refine sB ?_ | (with_reducible first | refine ops_cons (fun K hK => ?_) | refine W_reg lv128FlAC ?_) | with_reducible refine callV_snap ?_ | with_reducible refine And.intro (fun h => ?_) (fun h => ?_) | with_reducible refine And.intro (by omega) ?_); (try simp only [go_sem, seval, reduceCtorEq, hki, e0, c1, c2, c3, lv128FlAC, Tryz.ntmps128, Tryz.results128, rWrtS])) | fail)
            refine ⟨i + 1, [0, 1, 2, 3, 4, 5], by omega, by omega, ?_⟩
            simp [go_sem, k1]
          · obtain ⟨k1, k2⟩ := keep (fun h => c3 h.2.2)
            repeat' (first | refine sA ?_ | with_reducible refine W_tf rfl (fun h => ?_) (fun h => ?_) | ((with_reducible first | refine hK _ ?_ | refine hK _ _ ?_); clear hK K) | ((first | refine sB ?_ | (with_reducible first | refine ops_cons (fun K hK => ?_) | refine W_reg lv128FlAC ?_) | with_reducible refine callV_snap ?_ | with_reducible refine And.intro (fun h => ?_) (fun h => ?_) | with_reducible refine And.intro (by omega) ?_); (try simp only [go_sem, seval, reduceCtorEq, hki, e0, c1, c2, c3, lv128FlAC, Tryz.ntmps128, Tryz.results128, rWrtS])) | fail)
            refine ⟨i + 1, [0, 1, 2, 3, 4, 8], by omega, by omega, ?_⟩
            simp [go_sem, k1, k2, htl, c1, c2]
        · obtain ⟨k1, k2⟩ := keep (fun h => c2 h.2.1)
          repeat' (first | refine sA ?_ | with_reducible refine W_tf rfl (fun h => ?_) (fun h => ?_) | ((with_reducible first | refine hK _ ?_ | refine hK _ _ ?_); clear hK K) | ((first | refine sB ?_ | (with_reducible first | refine ops_cons (fun K hK => ?_) | refine W_reg lv128FlAC ?_) | with_reducible refine callV_snap ?_ | with_reducible refine And.intro (fun h => ?_) (fun h => ?_) | with_reducible refine And.intro (by omega) ?_); (try simp only [go_sem, seval, reduceCtorEq, hki, e0, c1, c2, lv128FlAC, Tryz.ntmps128, Tryz.results128, rWrtS])) | fail)
          refine ⟨i + 1, [0, 1, 2, 3, 4, 8], by omega, by omega, ?_⟩
          simp [go_sem, k1, k2, htl, c1]
      · obtain ⟨k1, k2⟩ := keep (fun h => c1 h.1)
        repeat' (first | refine sA ?_ | with_reducible refine W_tf rfl (fun h => ?_) (fun h => ?_) | ((with_reducible first | refine hK _ ?_ | refine hK _ _ ?_); clear hK K) | ((first | refine sB ?_ | (with_reducible first | refine ops_cons (fun K hK => ?_) | refine W_reg lv128FlAC ?_) | with_reducible refine callV_snap ?_ | with_reducible refine And.intro (fun h => ?_) (fun h => ?_) | with_reducible refine And.intro (by omega) ?_); (try simp only [go_sem, seval, reduceCtorEq, hki, e0, c1, lv128FlAC, Tryz.ntmps128, Tryz.results128, rWrtS])) | fail)
        refine ⟨i + 1, [0, 1, 2, 3, 4, 8], by omega, by omega, ?_⟩
        simp [go_sem, k1, k2, htl]
    · have hki : ¬ (i : Int) < cs.length := by omega
      obtain rfl : i = cs.length := by omega
      rw [List.take_length]
      have hrl : (rmK cs (p, g, w)).length ≤ cs.length := List.length_filter_le _ _
      have hrt : ((rmK cs (p, g, w)).map encCl).take (rmK cs (p, g, w)).length = (rmK cs (p, g, w)).map encCl := List.take_of_length_le (by simp)
      by_cases hv : v = 0
      · subst hv
        have hwd : wrC cs (p, g, w, 0) = rmK cs (p, g, w) := by simp [wrC, ck3]
        rw [hwd]
        repeat' (first | refine sA ?_ | with_reducible refine W_tf rfl (fun h => ?_) (fun h => ?_) | ((with_reducible first | refine hK _ ?_ | refine hK _ _ ?_); clear hK K) | ((first | refine sC ?_ | (with_reducible first | refine ops_cons (fun K hK => ?_) | refine W_reg lv128FlAC ?_) | with_reducible refine callV_snap ?_ | with_reducible refine And.intro (fun h => ?_) (fun h => ?_) | with_reducible refine And.intro (by omega) ?_); (try simp only [go_sem, seval, reduceCtorEq, hki, lv128FlAC, Tryz.ntmps128, Tryz.results128, rWrtS])) | fail)
        refine W_ret (endQ_ret (end_at [2, 3, 5] ?_))
        simp [go_sem, Tryz.results128, WrtS]
      · have hwd : wrC cs (p, g, w, v) = putC (rmK cs (p, g, w)) (p, g, w, v) := by simp [wrC, ck3, hv]
        have hv' : ¬ (v : Int) = 0 := by omega
        rw [hwd]
        generalize rmK cs (p, g, w) = R at *
        have hat : (al.map encDB).take al.length = al.map encDB := List.take_of_length_le (by simp)
        have hmt : (mp.map encU).take mp.length = mp.map encU := List.take_of_length_le (by simp)
        repeat' (first | refine sA ?_ | with_reducible refine W_tf rfl (fun h => ?_) (fun h => ?_) | ((with_reducible first | refine hK _ ?_ | refine hK _ _ ?_); clear hK K) | ((first | refine sC ?_ | (with_reducible first | refine ops_cons (fun K hK => ?_) | refine W_reg lv128FlAC ?_) | with_reducible refine callV_snap ?_ | ((with_reducible refine call_go putS put_ok ?_); refine ⟨alk, _, _, put_at al mp R (p, g, w, v) (by omega) (by omega) (by omega), ?_⟩) | with_reducible refine And.intro (fun h => ?_) (fun h => ?_) | with_reducible refine And.intro (by omega) ?_); (try simp only [go_sem, seval, reduceCtorEq, hki, hv', hrt, hat, hmt, List.drop_zero, lv128FlAC, Tryz.ntmps128, Tryz.results128, rWrtS])) | fail)
        refine W_ret (endQ_ret (end_at [6, 7, 8] ?_))
        simp [go_sem, Tryz.results128, WrtS]
end Go.Proofs.YtpocnjliigjidaaGreat
