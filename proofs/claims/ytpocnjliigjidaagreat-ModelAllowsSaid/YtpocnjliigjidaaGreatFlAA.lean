import Derived.Test.YtpocnjliigjidaaGreatFlZ
/- A flat memory: the specification's Map, Unmap, by the engine. -/
namespace Go.Proofs.YtpocnjliigjidaaGreat
open Go.RowKit
set_option maxRecDepth 100000
set_option linter.unusedSimpArgs false
set_option linter.unusedVariables false
abbrev lv124FlAA : List (Nat × List Nat) := [(0, [1, 2, 3, 4, 8]), (1, [1, 2, 3, 4, 8, 10]), (2, [1, 2, 3, 4, 8, 10, 17]), (3, [8, 9]), (4, [1, 2, 3, 4, 8, 30]), (5, [8, 9]), (6, [1, 2, 3, 4, 8, 11]), (7, [1, 3, 4, 8, 11, 12]), (8, [1, 3, 4, 8, 11, 12, 37]), (9, [1, 3, 4, 8, 11, 12]), (10, [1, 3, 4, 8, 11, 12, 43]), (11, [8, 9]), (12, [1, 3, 4, 8, 11, 12]), (13, [8, 9])]
abbrev lv125FlAA : List (Nat × List Nat) := [(0, [1, 2, 3, 4, 8]), (1, [1, 2, 3, 4, 8, 10]), (2, [1, 2, 3, 4, 8, 10, 17]), (3, [8, 9]), (4, [1, 2, 3, 4, 8, 30]), (5, [8, 9]), (6, [1, 2, 3, 4, 8, 11]), (7, [1, 3, 4, 8, 11, 12]), (8, [1, 3, 4, 8, 11, 12, 40]), (9, [1, 3, 4, 8, 11, 12]), (10, [1, 3, 4, 8, 11, 12, 47]), (11, [8, 9]), (12, [1, 3, 4, 8, 11, 12]), (13, [8, 9])]
abbrev rMapS : Spec := MapS
abbrev rUnmS : Spec := UnmS
def pgN (f n : Nat) : Nat := (2 ^ n - 1) * 2 ^ f
theorem pgN_bit (f n g : Nat) : (pgN f n).testBit g = decide (f ≤ g ∧ g < f + n) := by
  unfold pgN
  rw [Nat.testBit_mul_two_pow, Nat.testBit_two_pow_sub_one]
  by_cases h1 : f ≤ g
  · by_cases h2 : g < f + n
    · simp [h1, h2]; omega
    · simp [h1, h2]; omega
  · simp [h1]
theorem pgN_lt {f n : Nat} (h : f + n ≤ 64) : pgN f n < 18446744073709551616 := by
  unfold pgN
  rw [Nat.sub_mul, Nat.one_mul, ← Nat.pow_add]
  have : 2 ^ (n + f) ≤ 2 ^ 64 := Nat.pow_le_pow_right (by decide) (by omega)
  have := Nat.one_le_two_pow (n := f)
  omega
theorem pgN_all (f t : Nat) (h : f ≤ t) : pgN f (t + 1 - f) = pgM f t := by unfold pgN pgM; rw [show t + 1 - f = t - f + 1 by omega]
theorem or_step (x f n : Nat) : (x ||| pgN f n) ||| 2 ^ (f + n) = x ||| pgN f (n + 1) := by
  apply Nat.eq_of_testBit_eq
  intro g
  simp only [Nat.testBit_or, pgN_bit, Nat.testBit_two_pow]
  cases x.testBit g with
  | true => simp
  | false =>
    simp only [Bool.false_or]
    by_cases h1 : f + n = g
    · subst h1; simp
    · rw [Bool.eq_iff_iff]; simp [h1]; omega
theorem clr_step (x f n : Nat) (hx : x < 18446744073709551616) (h : f + n < 64) : clr (clr x (pgN f n)) (2 ^ (f + n)) = clr x (pgN f (n + 1)) := by
  have h2 : 2 ^ (f + n) < 18446744073709551616 := Nat.pow_lt_pow_right (m := f + n) (n := 64) (by decide) (by omega)
  apply Nat.eq_of_testBit_eq
  intro g
  rw [clr_bit _ _ _ h2 (clr_lt _ hx), clr_bit _ _ _ (pgN_lt (by omega)) hx, clr_bit _ _ _ (pgN_lt (by omega)) hx]
  simp only [pgN_bit, Nat.testBit_two_pow]
  cases x.testBit g with
  | false => simp
  | true =>
    simp only [Bool.true_and]
    by_cases h1 : f + n = g
    · subst h1; simp
    · rw [Bool.eq_iff_iff]; simp [h1]; omega
theorem or_zero' (x f : Nat) : x ||| pgN f 0 = x := by simp [pgN]
theorem clr_zero' (x f : Nat) (hx : x < 18446744073709551616) : clr x (pgN f 0) = x := by
  apply Nat.eq_of_testBit_eq
  intro g
  rw [clr_bit _ _ _ (by simp [pgN]) hx]
  simp [pgN]
theorem sh_one {q : Nat} (hq : q < 64) : IntKind.u64.wrap (1 * 2 ^ q) = ((2 ^ q : Nat) : Int) := by
  have hp : 2 ^ q < 18446744073709551616 := Nat.pow_lt_pow_right (m := q) (n := 64) (by decide) hq
  have e : (1 : Int) * 2 ^ q = ((2 ^ q : Nat) : Int) := by push_cast; omega
  rw [e]
  generalize 2 ^ q = P at *
  rw [IntKind.wrap_u64, Int.emod_eq_of_lt (by omega) (by omega)]
theorem or_sh {X q : Nat} (hX : X < 18446744073709551616) (hq : q < 64) : bits .or .u64 (X : Int) (IntKind.u64.wrap (1 * 2 ^ q)) = ((X ||| 2 ^ q : Nat) : Int) := by
  rw [sh_one hq]
  exact u64_or_nat X (2 ^ q) hX (Nat.pow_lt_pow_right (m := q) (n := 64) (by decide) hq)
theorem clr_sh {X q : Nat} (hX : X < 18446744073709551616) (hq : q < 64) : bits .andNot .u64 (X : Int) (IntKind.u64.wrap (1 * 2 ^ q)) = ((clr X (2 ^ q) : Nat) : Int) := by
  rw [sh_one hq]
  exact u64_andNot_nat X (2 ^ q) hX (Nat.pow_lt_pow_right (m := q) (n := 64) (by decide) hq)
set_option maxHeartbeats 4000000 in
theorem rMap_ok : Ok Tryz.prog 124 rMapS := by
  refine fn_ok rMapS Tryz.func124 rfl rfl ?_
  rintro args ins res outs (⟨al, mp, cs, p, f, t, hu, la, lm, lc, he, rfl, rfl, rfl, rfl⟩ | ⟨al, mp, cs, k, f, t, hu, lc, h0, hft, ht, hm, rfl, rfl, rfl, rfl⟩ | ⟨al, mp, cs, k, f, t, hu, lc, h0, hft, ht, hm, rfl, rfl, rfl, rfl⟩)
  all_goals refine ⟨by simp [Tryz.ntmps124], fun w0 V Bo mu0 => ?_⟩
  · have L0 := livg_at al mp cs p hu la lm lc
    obtain ⟨R, hR⟩ : ∃ R, rngE al mp cs p f t = R := ⟨_, rfl⟩
    rw [hR] at he ⊢
    unfold rngE at hR
    generalize lvsE al mp cs [p] = E at *
    have livg_at : livgS.rel [fm al mp cs, iv p] [] (iv E) [] := L0
    by_cases h0 : E = 0
    case neg =>
      rw [if_pos h0] at hR
      subst hR
      repeat' (first | refine sA ?_ | with_reducible refine W_tf rfl (fun h => ?_) (fun h => ?_) | ((with_reducible first | refine hK _ ?_ | refine hK _ _ ?_); clear hK K) | ((first | refine sB ?_ | (with_reducible first | refine ops_cons (fun K hK => ?_) | refine opsd_cons (fun K hK => ?_) | refine W_reg lv124FlAA ?_ | refine W_drw lv124FlAA (by kernel_rfl) ?_) | ((with_reducible refine opsd_nil ?_); refine And.intro (by kernel_rfl) ?_) | with_reducible refine callV_snap ?_ | ((with_reducible refine call_go livgS livg_ok ?_); refine ⟨alk, _, _, livg_at , ?_⟩) | with_reducible refine And.intro (fun h => ?_) (fun h => ?_) | with_reducible refine And.intro (by omega) ?_); (try simp only [go_sem, seval, reduceCtorEq, h0, lv124FlAA, Tryz.ntmps124, Tryz.results124, rMapS])) | fail)
    subst h0
    rw [if_neg (by decide)] at hR
    by_cases hr : f < 0 ∨ t < f ∨ 64 ≤ t
    case neg => rw [if_neg hr] at hR; exact absurd hR.symm he
    rw [if_pos hr] at hR
    subst hR
    by_cases h1 : f < 0
    · skip
      repeat' (first | refine sA ?_ | with_reducible refine W_tf rfl (fun h => ?_) (fun h => ?_) | ((with_reducible first | refine hK _ ?_ | refine hK _ _ ?_); clear hK K) | ((first | refine sB ?_ | (with_reducible first | refine ops_cons (fun K hK => ?_) | refine opsd_cons (fun K hK => ?_) | refine W_reg lv124FlAA ?_ | refine W_drw lv124FlAA (by kernel_rfl) ?_) | ((with_reducible refine opsd_nil ?_); refine And.intro (by kernel_rfl) ?_) | with_reducible refine callV_snap ?_ | ((with_reducible refine call_go livgS livg_ok ?_); refine ⟨alk, _, _, livg_at , ?_⟩) | with_reducible refine And.intro (fun h => ?_) (fun h => ?_) | with_reducible refine And.intro (by omega) ?_); (try simp only [go_sem, seval, reduceCtorEq, h1, lv124FlAA, Tryz.ntmps124, Tryz.results124, rMapS])) | fail)
    · by_cases h2 : t < f
      · skip
        repeat' (first | refine sA ?_ | with_reducible refine W_tf rfl (fun h => ?_) (fun h => ?_) | ((with_reducible first | refine hK _ ?_ | refine hK _ _ ?_); clear hK K) | ((first | refine sB ?_ | (with_reducible first | refine ops_cons (fun K hK => ?_) | refine opsd_cons (fun K hK => ?_) | refine W_reg lv124FlAA ?_ | refine W_drw lv124FlAA (by kernel_rfl) ?_) | ((with_reducible refine opsd_nil ?_); refine And.intro (by kernel_rfl) ?_) | with_reducible refine callV_snap ?_ | ((with_reducible refine call_go livgS livg_ok ?_); refine ⟨alk, _, _, livg_at , ?_⟩) | with_reducible refine And.intro (fun h => ?_) (fun h => ?_) | with_reducible refine And.intro (by omega) ?_); (try simp only [go_sem, seval, reduceCtorEq, h1, h2, lv124FlAA, Tryz.ntmps124, Tryz.results124, rMapS])) | fail)
      · have h3 : 64 ≤ t := by omega
        repeat' (first | refine sA ?_ | with_reducible refine W_tf rfl (fun h => ?_) (fun h => ?_) | ((with_reducible first | refine hK _ ?_ | refine hK _ _ ?_); clear hK K) | ((first | refine sB ?_ | (with_reducible first | refine ops_cons (fun K hK => ?_) | refine opsd_cons (fun K hK => ?_) | refine W_reg lv124FlAA ?_ | refine W_drw lv124FlAA (by kernel_rfl) ?_) | ((with_reducible refine opsd_nil ?_); refine And.intro (by kernel_rfl) ?_) | with_reducible refine callV_snap ?_ | ((with_reducible refine call_go livgS livg_ok ?_); refine ⟨alk, _, _, livg_at , ?_⟩) | with_reducible refine And.intro (fun h => ?_) (fun h => ?_) | with_reducible refine And.intro (by omega) ?_); (try simp only [go_sem, seval, reduceCtorEq, h1, h2, h3, lv124FlAA, Tryz.ntmps124, Tryz.results124, rMapS])) | fail)
  all_goals
    obtain ⟨g0, ⟨g1, g2⟩, g3⟩ := lvs_zero h0
    obtain ⟨l1, l2⟩ := flchk_len g0
    have L0 := livg_at al mp cs ((k : Int) + 1) hu (by omega) (by omega) lc
    rw [h0] at L0
    have livg_at : livgS.rel [fm al mp cs, iv ((k : Int) + 1)] [] (iv 0) [] := L0
    have hkm : k < mp.length := by omega
    have hki : (k : Int) < mp.length := by omega
    have hp1 : (k : Int) + 1 - 1 = (k : Int) := by omega
    have f1 : ¬ (f : Int) < 0 := by omega
    have f2 : ¬ (t : Int) < (f : Int) := by omega
    have f3 : ¬ (64 : Int) ≤ (t : Int) := by omega
    have hmk : mp[k]?.getD 0 = mp[k] := by simp [hkm]
    have hx := hu _ (List.getElem_mem hkm)
    have hmp : ∀ g : Nat, mpd mp ((k : Int) + 1) (g : Int) = mp[k].testBit g := fun g => by unfold mpd; rw [hp1]; simp [hkm]
  · skip
    repeat' (first | refine sA ?_ | with_reducible refine W_tf rfl (fun h => ?_) (fun h => ?_) | ((with_reducible first | refine hK _ ?_ | refine hK _ _ ?_); clear hK K) | ((first | refine sB ?_ | (with_reducible first | refine ops_cons (fun K hK => ?_) | refine opsd_cons (fun K hK => ?_) | refine W_reg lv124FlAA ?_ | refine W_drw lv124FlAA (by kernel_rfl) ?_) | ((with_reducible refine opsd_nil ?_); refine And.intro (by kernel_rfl) ?_) | with_reducible refine callV_snap ?_ | ((with_reducible refine call_go livgS livg_ok ?_); refine ⟨alk, _, _, livg_at , ?_⟩) | ((with_reducible refine call_go ownS own_ok ?_); refine ⟨alk, _, _, own_at al mp cs (by omega) (by omega) lc, ?_⟩) | with_reducible refine And.intro (fun h => ?_) (fun h => ?_) | with_reducible refine And.intro (by omega) ?_); (try simp only [go_sem, seval, reduceCtorEq, f1, f2, f3, lv124FlAA, Tryz.ntmps124, Tryz.results124, rMapS])) | fail)
    refine W_loop (fun n : Nat => ⟨[(1, iv ((k : Int) + 1)), (3, iv (t : Int)), (4, .ptr 0 0), (8, .ptr 1 0), (11, .ptr 5 0), (12, iv ((f + n : Nat) : Int))], [some (.box 38 [.d (.sl (al.map encDB)), .d (.sl (mp.map encU)), .d (.sl (cs.map encCl))]), some (.box 38 [.nil, .nil, .nil]), some (.rows 4 1 (al.map encDB)), some (.rows 24 1 ((mp.set k (mp[k] ||| pgN f n)).map encU)), some (.rows 90 4 (cs.map encCl)), some (.box 38 [.row 2 1 0 al.length, .row 3 1 0 mp.length, .row 4 4 0 cs.length])]⟩)
      (fun n => f + n ≤ t + 1 ∧ ∀ g, f ≤ g → g < f + n → mp[k].testBit g = false) (fun n => t + 1 - (f + n)) 0 ⟨by omega, fun g h1 h2 => by omega⟩ [0, 1, 2, 3, 4, 5] ?_ ?_
    · simp [go_sem, or_zero']
    rintro n ⟨hn, hno⟩
    by_cases hle : f + n ≤ t
    · have hli : ((f + n : Nat) : Int) ≤ (t : Int) := by omega
      cases hb : mp[k].testBit (f + n) with
      | true =>
        have hmg := (hmp (f + n)).trans hb
        repeat' (first | refine sA ?_ | with_reducible refine W_tf rfl (fun h => ?_) (fun h => ?_) | ((with_reducible first | refine hK _ ?_ | refine hK _ _ ?_); clear hK K) | ((first | refine sB ?_ | (with_reducible first | refine ops_cons (fun K hK => ?_) | refine opsd_cons (fun K hK => ?_) | refine W_reg lv124FlAA ?_ | refine W_drw lv124FlAA (by kernel_rfl) ?_) | ((with_reducible refine opsd_nil ?_); refine And.intro (by kernel_rfl) ?_) | with_reducible refine callV_snap ?_ | ((with_reducible refine call_go rmapS rmap_ok ?_); refine ⟨alk, _, _, rmap_at al mp cs ((k : Int) + 1) ((f + n : Nat) : Int) l2 hu ⟨by omega, by omega⟩ ⟨by omega, by omega⟩, ?_⟩) | with_reducible refine And.intro (fun h => ?_) (fun h => ?_) | with_reducible refine And.intro (by omega) ?_); (try simp only [go_sem, seval, reduceCtorEq, hli, hmg, lv124FlAA, Tryz.ntmps124, Tryz.results124, rMapS])) | fail)
      | false =>
        have hmg := (hmp (f + n)).trans hb
        obtain ⟨X, hX⟩ : ∃ X, mp[k] ||| pgN f n = X := ⟨_, rfl⟩
        have hXlt : X < 18446744073709551616 := by rw [← hX]; exact Nat.or_lt_two_pow (n := 64) hx (pgN_lt (by omega))
        have hst := or_step mp[k] f n
        rw [hX] at hst ⊢
        have hkm2 : k < (mp.set k X).length := by simpa using hkm
        have eX : encU (mp.set k X)[k] = [.int .u64 (X : Int)] := by simp [encU]
        have hpw : 2 ^ (f + n) < 18446744073709551616 := Nat.pow_lt_pow_right (m := f + n) (n := 64) (by decide) (by omega)
        have hor : bits .or .u64 (X : Int) (IntKind.u64.wrap (1 * 2 ^ (f + n))) = ((X ||| 2 ^ (f + n) : Nat) : Int) :=  or_sh hXlt (by omega)
        have hset : ((mp.set k X).map encU).set k [.int .u64 ((X ||| 2 ^ (f + n) : Nat) : Int)] = (mp.set k (mp[k] ||| pgN f (n + 1))).map encU := by
          rw [← hst, show [D.int .u64 ((X ||| 2 ^ (f + n) : Nat) : Int)] = encU (X ||| 2 ^ (f + n)) from rfl, ← List.map_set, List.set_set]
        repeat' (first | refine sA ?_ | with_reducible refine W_tf rfl (fun h => ?_) (fun h => ?_) | ((with_reducible first | refine hK _ ?_ | refine hK _ _ ?_); clear hK K) | ((with_reducible refine idx_map2 hkm2 ?_); simp only [go_sem, seval, reduceCtorEq, encU_len, eX]) | ((first | refine sB ?_ | (with_reducible first | refine ops_cons (fun K hK => ?_) | refine opsd_cons (fun K hK => ?_) | refine W_reg lv124FlAA ?_ | refine W_drw lv124FlAA (by kernel_rfl) ?_) | ((with_reducible refine opsd_nil ?_); refine And.intro (by kernel_rfl) ?_) | with_reducible refine callV_snap ?_ | ((with_reducible refine call_go rmapS rmap_ok ?_); refine ⟨alk, _, _, rmap_at al mp cs ((k : Int) + 1) ((f + n : Nat) : Int) l2 hu ⟨by omega, by omega⟩ ⟨by omega, by omega⟩, ?_⟩) | with_reducible refine And.intro (fun h => ?_) (fun h => ?_) | with_reducible refine And.intro (by omega) ?_); (try simp only [go_sem, seval, reduceCtorEq, hli, hmg, hp1, eX, hor, hset, lv124FlAA, Tryz.ntmps124, Tryz.results124, rMapS])) | fail)
        refine ⟨n + 1, [0, 1, 2, 3, 4, 5], ⟨by omega, fun g h1 h2 => ?_⟩, by omega, ?_⟩
        · by_cases hg : g = f + n
          · subst hg; exact hb
          · exact hno g h1 (by omega)
        · simp [go_sem, hset]
          try omega
    · obtain ⟨g, h1, h2, h3⟩ := hm
      rw [hmk, hno g h1 (by omega)] at h3
      cases h3
  · rw [hmk] at hm ⊢
    repeat' (first | refine sA ?_ | with_reducible refine W_tf rfl (fun h => ?_) (fun h => ?_) | ((with_reducible first | refine hK _ ?_ | refine hK _ _ ?_); clear hK K) | ((first | refine sB ?_ | (with_reducible first | refine ops_cons (fun K hK => ?_) | refine opsd_cons (fun K hK => ?_) | refine W_reg lv124FlAA ?_ | refine W_drw lv124FlAA (by kernel_rfl) ?_) | ((with_reducible refine opsd_nil ?_); refine And.intro (by kernel_rfl) ?_) | with_reducible refine callV_snap ?_ | ((with_reducible refine call_go livgS livg_ok ?_); refine ⟨alk, _, _, livg_at , ?_⟩) | ((with_reducible refine call_go ownS own_ok ?_); refine ⟨alk, _, _, own_at al mp cs (by omega) (by omega) lc, ?_⟩) | with_reducible refine And.intro (fun h => ?_) (fun h => ?_) | with_reducible refine And.intro (by omega) ?_); (try simp only [go_sem, seval, reduceCtorEq, f1, f2, f3, lv124FlAA, Tryz.ntmps124, Tryz.results124, rMapS])) | fail)
    refine W_loop (fun n : Nat => ⟨[(1, iv ((k : Int) + 1)), (3, iv (t : Int)), (4, .ptr 0 0), (8, .ptr 1 0), (11, .ptr 5 0), (12, iv ((f + n : Nat) : Int))], [some (.box 38 [.d (.sl (al.map encDB)), .d (.sl (mp.map encU)), .d (.sl (cs.map encCl))]), some (.box 38 [.nil, .nil, .nil]), some (.rows 4 1 (al.map encDB)), some (.rows 24 1 ((mp.set k (mp[k] ||| pgN f n)).map encU)), some (.rows 90 4 (cs.map encCl)), some (.box 38 [.row 2 1 0 al.length, .row 3 1 0 mp.length, .row 4 4 0 cs.length])]⟩)
      (fun n => f + n ≤ t + 1 ∧ ∀ g, f ≤ g → g < f + n → mp[k].testBit g = false) (fun n => t + 1 - (f + n)) 0 ⟨by omega, fun g h1 h2 => by omega⟩ [0, 1, 2, 3, 4, 5] ?_ ?_
    · simp [go_sem, or_zero']
    rintro n ⟨hn, hno⟩
    by_cases hle : f + n ≤ t
    · have hli : ((f + n : Nat) : Int) ≤ (t : Int) := by omega
      cases hb : mp[k].testBit (f + n) with
      | true =>
        have hmg := (hmp (f + n)).trans hb
        exact absurd ⟨f + n, by omega, hle, hb⟩ hm
      | false =>
        have hmg := (hmp (f + n)).trans hb
        obtain ⟨X, hX⟩ : ∃ X, mp[k] ||| pgN f n = X := ⟨_, rfl⟩
        have hXlt : X < 18446744073709551616 := by rw [← hX]; exact Nat.or_lt_two_pow (n := 64) hx (pgN_lt (by omega))
        have hst := or_step mp[k] f n
        rw [hX] at hst ⊢
        have hkm2 : k < (mp.set k X).length := by simpa using hkm
        have eX : encU (mp.set k X)[k] = [.int .u64 (X : Int)] := by simp [encU]
        have hpw : 2 ^ (f + n) < 18446744073709551616 := Nat.pow_lt_pow_right (m := f + n) (n := 64) (by decide) (by omega)
        have hor : bits .or .u64 (X : Int) (IntKind.u64.wrap (1 * 2 ^ (f + n))) = ((X ||| 2 ^ (f + n) : Nat) : Int) :=  or_sh hXlt (by omega)
        have hset : ((mp.set k X).map encU).set k [.int .u64 ((X ||| 2 ^ (f + n) : Nat) : Int)] = (mp.set k (mp[k] ||| pgN f (n + 1))).map encU := by
          rw [← hst, show [D.int .u64 ((X ||| 2 ^ (f + n) : Nat) : Int)] = encU (X ||| 2 ^ (f + n)) from rfl, ← List.map_set, List.set_set]
        repeat' (first | refine sA ?_ | with_reducible refine W_tf rfl (fun h => ?_) (fun h => ?_) | ((with_reducible first | refine hK _ ?_ | refine hK _ _ ?_); clear hK K) | ((with_reducible refine idx_map2 hkm2 ?_); simp only [go_sem, seval, reduceCtorEq, encU_len, eX]) | ((first | refine sB ?_ | (with_reducible first | refine ops_cons (fun K hK => ?_) | refine opsd_cons (fun K hK => ?_) | refine W_reg lv124FlAA ?_ | refine W_drw lv124FlAA (by kernel_rfl) ?_) | ((with_reducible refine opsd_nil ?_); refine And.intro (by kernel_rfl) ?_) | with_reducible refine callV_snap ?_ | ((with_reducible refine call_go rmapS rmap_ok ?_); refine ⟨alk, _, _, rmap_at al mp cs ((k : Int) + 1) ((f + n : Nat) : Int) l2 hu ⟨by omega, by omega⟩ ⟨by omega, by omega⟩, ?_⟩) | with_reducible refine And.intro (fun h => ?_) (fun h => ?_) | with_reducible refine And.intro (by omega) ?_); (try simp only [go_sem, seval, reduceCtorEq, hli, hmg, hp1, eX, hor, hset, lv124FlAA, Tryz.ntmps124, Tryz.results124, rMapS])) | fail)
        refine ⟨n + 1, [0, 1, 2, 3, 4, 5], ⟨by omega, fun g h1 h2 => ?_⟩, by omega, ?_⟩
        · by_cases hg : g = f + n
          · subst hg; exact hb
          · exact hno g h1 (by omega)
        · simp [go_sem, hset]
          try omega
    · have hli : ¬ ((f + n : Nat) : Int) ≤ (t : Int) := by omega
      obtain rfl : n = t + 1 - f := by omega
      rw [pgN_all f t hft]
      repeat' (first | refine sA ?_ | with_reducible refine W_tf rfl (fun h => ?_) (fun h => ?_) | ((with_reducible first | refine hK _ ?_ | refine hK _ _ ?_); clear hK K) | ((first | refine sC ?_ | (with_reducible first | refine ops_cons (fun K hK => ?_) | refine opsd_cons (fun K hK => ?_) | refine W_reg lv124FlAA ?_ | refine W_drw lv124FlAA (by kernel_rfl) ?_) | ((with_reducible refine opsd_nil ?_); refine And.intro (by kernel_rfl) ?_) | with_reducible refine callV_snap ?_ | with_reducible refine And.intro (fun h => ?_) (fun h => ?_) | with_reducible refine And.intro (by omega) ?_); (try simp only [go_sem, seval, reduceCtorEq, hli, lv124FlAA, Tryz.ntmps124, Tryz.results124, rMapS])) | fail)
      refine W_ret (endQ_ret (end_at [2, 3, 4] ?_))
      simp [go_sem, Tryz.results124, MapS]
set_option maxHeartbeats 4000000 in
theorem rUnm_ok : Ok Tryz.prog 125 rUnmS := by
  refine fn_ok rUnmS Tryz.func125 rfl rfl ?_
  rintro args ins res outs (⟨al, mp, cs, p, f, t, hu, la, lm, lc, he, rfl, rfl, rfl, rfl⟩ | ⟨al, mp, cs, k, f, t, hu, lc, h0, hft, ht, hm, rfl, rfl, rfl, rfl⟩ | ⟨al, mp, cs, k, f, t, hu, lc, h0, hft, ht, hm, rfl, rfl, rfl, rfl⟩)
  all_goals refine ⟨by simp [Tryz.ntmps125], fun w0 V Bo mu0 => ?_⟩
  · have L0 := livg_at al mp cs p hu la lm lc
    obtain ⟨R, hR⟩ : ∃ R, rngE al mp cs p f t = R := ⟨_, rfl⟩
    rw [hR] at he ⊢
    unfold rngE at hR
    generalize lvsE al mp cs [p] = E at *
    have livg_at : livgS.rel [fm al mp cs, iv p] [] (iv E) [] := L0
    by_cases h0 : E = 0
    case neg =>
      rw [if_pos h0] at hR
      subst hR
      repeat' (first | refine sA ?_ | with_reducible refine W_tf rfl (fun h => ?_) (fun h => ?_) | ((with_reducible first | refine hK _ ?_ | refine hK _ _ ?_); clear hK K) | ((first | refine sB ?_ | (with_reducible first | refine ops_cons (fun K hK => ?_) | refine opsd_cons (fun K hK => ?_) | refine W_reg lv125FlAA ?_ | refine W_drw lv125FlAA (by kernel_rfl) ?_) | ((with_reducible refine opsd_nil ?_); refine And.intro (by kernel_rfl) ?_) | with_reducible refine callV_snap ?_ | ((with_reducible refine call_go livgS livg_ok ?_); refine ⟨alk, _, _, livg_at , ?_⟩) | with_reducible refine And.intro (fun h => ?_) (fun h => ?_) | with_reducible refine And.intro (by omega) ?_); (try simp only [go_sem, seval, reduceCtorEq, h0, lv125FlAA, Tryz.ntmps125, Tryz.results125, rUnmS])) | fail)
    subst h0
    rw [if_neg (by decide)] at hR
    by_cases hr : f < 0 ∨ t < f ∨ 64 ≤ t
    case neg => rw [if_neg hr] at hR; exact absurd hR.symm he
    rw [if_pos hr] at hR
    subst hR
    by_cases h1 : f < 0
    · skip
      repeat' (first | refine sA ?_ | with_reducible refine W_tf rfl (fun h => ?_) (fun h => ?_) | ((with_reducible first | refine hK _ ?_ | refine hK _ _ ?_); clear hK K) | ((first | refine sB ?_ | (with_reducible first | refine ops_cons (fun K hK => ?_) | refine opsd_cons (fun K hK => ?_) | refine W_reg lv125FlAA ?_ | refine W_drw lv125FlAA (by kernel_rfl) ?_) | ((with_reducible refine opsd_nil ?_); refine And.intro (by kernel_rfl) ?_) | with_reducible refine callV_snap ?_ | ((with_reducible refine call_go livgS livg_ok ?_); refine ⟨alk, _, _, livg_at , ?_⟩) | with_reducible refine And.intro (fun h => ?_) (fun h => ?_) | with_reducible refine And.intro (by omega) ?_); (try simp only [go_sem, seval, reduceCtorEq, h1, lv125FlAA, Tryz.ntmps125, Tryz.results125, rUnmS])) | fail)
    · by_cases h2 : t < f
      · skip
        repeat' (first | refine sA ?_ | with_reducible refine W_tf rfl (fun h => ?_) (fun h => ?_) | ((with_reducible first | refine hK _ ?_ | refine hK _ _ ?_); clear hK K) | ((first | refine sB ?_ | (with_reducible first | refine ops_cons (fun K hK => ?_) | refine opsd_cons (fun K hK => ?_) | refine W_reg lv125FlAA ?_ | refine W_drw lv125FlAA (by kernel_rfl) ?_) | ((with_reducible refine opsd_nil ?_); refine And.intro (by kernel_rfl) ?_) | with_reducible refine callV_snap ?_ | ((with_reducible refine call_go livgS livg_ok ?_); refine ⟨alk, _, _, livg_at , ?_⟩) | with_reducible refine And.intro (fun h => ?_) (fun h => ?_) | with_reducible refine And.intro (by omega) ?_); (try simp only [go_sem, seval, reduceCtorEq, h1, h2, lv125FlAA, Tryz.ntmps125, Tryz.results125, rUnmS])) | fail)
      · have h3 : 64 ≤ t := by omega
        repeat' (first | refine sA ?_ | with_reducible refine W_tf rfl (fun h => ?_) (fun h => ?_) | ((with_reducible first | refine hK _ ?_ | refine hK _ _ ?_); clear hK K) | ((first | refine sB ?_ | (with_reducible first | refine ops_cons (fun K hK => ?_) | refine opsd_cons (fun K hK => ?_) | refine W_reg lv125FlAA ?_ | refine W_drw lv125FlAA (by kernel_rfl) ?_) | ((with_reducible refine opsd_nil ?_); refine And.intro (by kernel_rfl) ?_) | with_reducible refine callV_snap ?_ | ((with_reducible refine call_go livgS livg_ok ?_); refine ⟨alk, _, _, livg_at , ?_⟩) | with_reducible refine And.intro (fun h => ?_) (fun h => ?_) | with_reducible refine And.intro (by omega) ?_); (try simp only [go_sem, seval, reduceCtorEq, h1, h2, h3, lv125FlAA, Tryz.ntmps125, Tryz.results125, rUnmS])) | fail)
  all_goals
    obtain ⟨g0, ⟨g1, g2⟩, g3⟩ := lvs_zero h0
    obtain ⟨l1, l2⟩ := flchk_len g0
    have L0 := livg_at al mp cs ((k : Int) + 1) hu (by omega) (by omega) lc
    rw [h0] at L0
    have livg_at : livgS.rel [fm al mp cs, iv ((k : Int) + 1)] [] (iv 0) [] := L0
    have hkm : k < mp.length := by omega
    have hki : (k : Int) < mp.length := by omega
    have hp1 : (k : Int) + 1 - 1 = (k : Int) := by omega
    have f1 : ¬ (f : Int) < 0 := by omega
    have f2 : ¬ (t : Int) < (f : Int) := by omega
    have f3 : ¬ (64 : Int) ≤ (t : Int) := by omega
    have hmk : mp[k]?.getD 0 = mp[k] := by simp [hkm]
    have hx := hu _ (List.getElem_mem hkm)
    have hmp : ∀ g : Nat, mpd mp ((k : Int) + 1) (g : Int) = mp[k].testBit g := fun g => by unfold mpd; rw [hp1]; simp [hkm]
  · skip
    repeat' (first | refine sA ?_ | with_reducible refine W_tf rfl (fun h => ?_) (fun h => ?_) | ((with_reducible first | refine hK _ ?_ | refine hK _ _ ?_); clear hK K) | ((first | refine sB ?_ | (with_reducible first | refine ops_cons (fun K hK => ?_) | refine opsd_cons (fun K hK => ?_) | refine W_reg lv125FlAA ?_ | refine W_drw lv125FlAA (by kernel_rfl) ?_) | ((with_reducible refine opsd_nil ?_); refine And.intro (by kernel_rfl) ?_) | with_reducible refine callV_snap ?_ | ((with_reducible refine call_go livgS livg_ok ?_); refine ⟨alk, _, _, livg_at , ?_⟩) | ((with_reducible refine call_go woS wo_ok ?_); refine ⟨alk, _, _, wo_at al mp cs ((k : Int) + 1) (f : Int) (t : Int) (by omega) (by omega) lc, ?_⟩) | with_reducible refine And.intro (fun h => ?_) (fun h => ?_) | with_reducible refine And.intro (by omega) ?_); (try simp only [go_sem, seval, reduceCtorEq, f1, f2, f3, lv125FlAA, Tryz.ntmps125, Tryz.results125, rUnmS])) | fail)
    refine W_loop (fun n : Nat => ⟨[(1, iv ((k : Int) + 1)), (3, iv (t : Int)), (4, .ptr 0 0), (8, .ptr 1 0), (11, .ptr 5 0), (12, iv ((f + n : Nat) : Int))], [some (.box 38 [.d (.sl (al.map encDB)), .d (.sl (mp.map encU)), .d (.sl (cs.map encCl))]), some (.box 38 [.nil, .nil, .nil]), some (.rows 4 1 (al.map encDB)), some (.rows 24 1 ((mp.set k (clr mp[k] (pgN f n))).map encU)), some (.rows 90 4 ((woC cs ((k : Int) + 1) f t).map encCl)), some (.box 38 [.row 2 1 0 al.length, .row 3 1 0 mp.length, .row 4 4 0 (woC cs ((k : Int) + 1) f t).length])]⟩)
      (fun n => f + n ≤ t + 1 ∧ ∀ g, f ≤ g → g < f + n → mp[k].testBit g = true) (fun n => t + 1 - (f + n)) 0 ⟨by omega, fun g h1 h2 => by omega⟩ [0, 1, 2, 3, 4, 5] ?_ ?_
    · simp [go_sem, clr_zero' _ _ hx]
    rintro n ⟨hn, hno⟩
    by_cases hle : f + n ≤ t
    · have hli : ((f + n : Nat) : Int) ≤ (t : Int) := by omega
      cases hb : mp[k].testBit (f + n) with
      | false =>
        have hmg := (hmp (f + n)).trans hb
        repeat' (first | refine sA ?_ | with_reducible refine W_tf rfl (fun h => ?_) (fun h => ?_) | ((with_reducible first | refine hK _ ?_ | refine hK _ _ ?_); clear hK K) | ((first | refine sB ?_ | (with_reducible first | refine ops_cons (fun K hK => ?_) | refine opsd_cons (fun K hK => ?_) | refine W_reg lv125FlAA ?_ | refine W_drw lv125FlAA (by kernel_rfl) ?_) | ((with_reducible refine opsd_nil ?_); refine And.intro (by kernel_rfl) ?_) | with_reducible refine callV_snap ?_ | ((with_reducible refine call_go rmapS rmap_ok ?_); refine ⟨alk, _, _, rmap_at al mp cs ((k : Int) + 1) ((f + n : Nat) : Int) l2 hu ⟨by omega, by omega⟩ ⟨by omega, by omega⟩, ?_⟩) | with_reducible refine And.intro (fun h => ?_) (fun h => ?_) | with_reducible refine And.intro (by omega) ?_); (try simp only [go_sem, seval, reduceCtorEq, hli, hmg, lv125FlAA, Tryz.ntmps125, Tryz.results125, rUnmS])) | fail)
      | true =>
        have hmg := (hmp (f + n)).trans hb
        obtain ⟨X, hX⟩ : ∃ X, clr mp[k] (pgN f n) = X := ⟨_, rfl⟩
        have hXlt : X < 18446744073709551616 := by rw [← hX]; exact clr_lt _ hx
        have hst := clr_step mp[k] f n hx (by omega)
        rw [hX] at hst ⊢
        have hkm2 : k < (mp.set k X).length := by simpa using hkm
        have eX : encU (mp.set k X)[k] = [.int .u64 (X : Int)] := by simp [encU]
        have hpw : 2 ^ (f + n) < 18446744073709551616 := Nat.pow_lt_pow_right (m := f + n) (n := 64) (by decide) (by omega)
        have hor : bits .andNot .u64 (X : Int) (IntKind.u64.wrap (1 * 2 ^ (f + n))) = ((clr X (2 ^ (f + n)) : Nat) : Int) :=  clr_sh hXlt (by omega)
        have hset : ((mp.set k X).map encU).set k [.int .u64 ((clr X (2 ^ (f + n)) : Nat) : Int)] = (mp.set k (clr mp[k] (pgN f (n + 1)))).map encU := by
          rw [← hst, show [D.int .u64 ((clr X (2 ^ (f + n)) : Nat) : Int)] = encU (clr X (2 ^ (f + n))) from rfl, ← List.map_set, List.set_set]
        repeat' (first | refine sA ?_ | with_reducible refine W_tf rfl (fun h => ?_) (fun h => ?_) | ((with_reducible first | refine hK _ ?_ | refine hK _ _ ?_); clear hK K) | ((with_reducible refine idx_map2 hkm2 ?_); simp only [go_sem, seval, reduceCtorEq, encU_len, eX]) | ((first | refine sB ?_ | (with_reducible first | refine ops_cons (fun K hK => ?_) | refine opsd_cons (fun K hK => ?_) | refine W_reg lv125FlAA ?_ | refine W_drw lv125FlAA (by kernel_rfl) ?_) | ((with_reducible refine opsd_nil ?_); refine And.intro (by kernel_rfl) ?_) | with_reducible refine callV_snap ?_ | ((with_reducible refine call_go rmapS rmap_ok ?_); refine ⟨alk, _, _, rmap_at al mp cs ((k : Int) + 1) ((f + n : Nat) : Int) l2 hu ⟨by omega, by omega⟩ ⟨by omega, by omega⟩, ?_⟩) | with_reducible refine And.intro (fun h => ?_) (fun h => ?_) | with_reducible refine And.intro (by omega) ?_); (try simp only [go_sem, seval, reduceCtorEq, hli, hmg, hp1, eX, hor, hset, lv125FlAA, Tryz.ntmps125, Tryz.results125, rUnmS])) | fail)
        refine ⟨n + 1, [0, 1, 2, 3, 4, 5], ⟨by omega, fun g h1 h2 => ?_⟩, by omega, ?_⟩
        · by_cases hg : g = f + n
          · subst hg; exact hb
          · exact hno g h1 (by omega)
        · simp [go_sem, hset]
          try omega
    · rw [hmk] at hm
      exact absurd (fun g h1 h2 => hno g h1 (by omega)) hm
  · rw [hmk] at hm ⊢
    repeat' (first | refine sA ?_ | with_reducible refine W_tf rfl (fun h => ?_) (fun h => ?_) | ((with_reducible first | refine hK _ ?_ | refine hK _ _ ?_); clear hK K) | ((first | refine sB ?_ | (with_reducible first | refine ops_cons (fun K hK => ?_) | refine opsd_cons (fun K hK => ?_) | refine W_reg lv125FlAA ?_ | refine W_drw lv125FlAA (by kernel_rfl) ?_) | ((with_reducible refine opsd_nil ?_); refine And.intro (by kernel_rfl) ?_) | with_reducible refine callV_snap ?_ | ((with_reducible refine call_go livgS livg_ok ?_); refine ⟨alk, _, _, livg_at , ?_⟩) | ((with_reducible refine call_go woS wo_ok ?_); refine ⟨alk, _, _, wo_at al mp cs ((k : Int) + 1) (f : Int) (t : Int) (by omega) (by omega) lc, ?_⟩) | with_reducible refine And.intro (fun h => ?_) (fun h => ?_) | with_reducible refine And.intro (by omega) ?_); (try simp only [go_sem, seval, reduceCtorEq, f1, f2, f3, lv125FlAA, Tryz.ntmps125, Tryz.results125, rUnmS])) | fail)
    refine W_loop (fun n : Nat => ⟨[(1, iv ((k : Int) + 1)), (3, iv (t : Int)), (4, .ptr 0 0), (8, .ptr 1 0), (11, .ptr 5 0), (12, iv ((f + n : Nat) : Int))], [some (.box 38 [.d (.sl (al.map encDB)), .d (.sl (mp.map encU)), .d (.sl (cs.map encCl))]), some (.box 38 [.nil, .nil, .nil]), some (.rows 4 1 (al.map encDB)), some (.rows 24 1 ((mp.set k (clr mp[k] (pgN f n))).map encU)), some (.rows 90 4 ((woC cs ((k : Int) + 1) f t).map encCl)), some (.box 38 [.row 2 1 0 al.length, .row 3 1 0 mp.length, .row 4 4 0 (woC cs ((k : Int) + 1) f t).length])]⟩)
      (fun n => f + n ≤ t + 1 ∧ ∀ g, f ≤ g → g < f + n → mp[k].testBit g = true) (fun n => t + 1 - (f + n)) 0 ⟨by omega, fun g h1 h2 => by omega⟩ [0, 1, 2, 3, 4, 5] ?_ ?_
    · simp [go_sem, clr_zero' _ _ hx]
    rintro n ⟨hn, hno⟩
    by_cases hle : f + n ≤ t
    · have hli : ((f + n : Nat) : Int) ≤ (t : Int) := by omega
      cases hb : mp[k].testBit (f + n) with
      | false =>
        have hmg := (hmp (f + n)).trans hb
        exact absurd (hm (f + n) (by omega) hle) (by rw [hb]; decide)
      | true =>
        have hmg := (hmp (f + n)).trans hb
        obtain ⟨X, hX⟩ : ∃ X, clr mp[k] (pgN f n) = X := ⟨_, rfl⟩
        have hXlt : X < 18446744073709551616 := by rw [← hX]; exact clr_lt _ hx
        have hst := clr_step mp[k] f n hx (by omega)
        rw [hX] at hst ⊢
        have hkm2 : k < (mp.set k X).length := by simpa using hkm
        have eX : encU (mp.set k X)[k] = [.int .u64 (X : Int)] := by simp [encU]
        have hpw : 2 ^ (f + n) < 18446744073709551616 := Nat.pow_lt_pow_right (m := f + n) (n := 64) (by decide) (by omega)
        have hor : bits .andNot .u64 (X : Int) (IntKind.u64.wrap (1 * 2 ^ (f + n))) = ((clr X (2 ^ (f + n)) : Nat) : Int) :=  clr_sh hXlt (by omega)
        have hset : ((mp.set k X).map encU).set k [.int .u64 ((clr X (2 ^ (f + n)) : Nat) : Int)] = (mp.set k (clr mp[k] (pgN f (n + 1)))).map encU := by
          rw [← hst, show [D.int .u64 ((clr X (2 ^ (f + n)) : Nat) : Int)] = encU (clr X (2 ^ (f + n))) from rfl, ← List.map_set, List.set_set]
        repeat' (first | refine sA ?_ | with_reducible refine W_tf rfl (fun h => ?_) (fun h => ?_) | ((with_reducible first | refine hK _ ?_ | refine hK _ _ ?_); clear hK K) | ((with_reducible refine idx_map2 hkm2 ?_); simp only [go_sem, seval, reduceCtorEq, encU_len, eX]) | ((first | refine sB ?_ | (with_reducible first | refine ops_cons (fun K hK => ?_) | refine opsd_cons (fun K hK => ?_) | refine W_reg lv125FlAA ?_ | refine W_drw lv125FlAA (by kernel_rfl) ?_) | ((with_reducible refine opsd_nil ?_); refine And.intro (by kernel_rfl) ?_) | with_reducible refine callV_snap ?_ | ((with_reducible refine call_go rmapS rmap_ok ?_); refine ⟨alk, _, _, rmap_at al mp cs ((k : Int) + 1) ((f + n : Nat) : Int) l2 hu ⟨by omega, by omega⟩ ⟨by omega, by omega⟩, ?_⟩) | with_reducible refine And.intro (fun h => ?_) (fun h => ?_) | with_reducible refine And.intro (by omega) ?_); (try simp only [go_sem, seval, reduceCtorEq, hli, hmg, hp1, eX, hor, hset, lv125FlAA, Tryz.ntmps125, Tryz.results125, rUnmS])) | fail)
        refine ⟨n + 1, [0, 1, 2, 3, 4, 5], ⟨by omega, fun g h1 h2 => ?_⟩, by omega, ?_⟩
        · by_cases hg : g = f + n
          · subst hg; exact hb
          · exact hno g h1 (by omega)
        · simp [go_sem, hset]
          try omega
    · have hli : ¬ ((f + n : Nat) : Int) ≤ (t : Int) := by omega
      obtain rfl : n = t + 1 - f := by omega
      rw [pgN_all f t hft]
      repeat' (first | refine sA ?_ | with_reducible refine W_tf rfl (fun h => ?_) (fun h => ?_) | ((with_reducible first | refine hK _ ?_ | refine hK _ _ ?_); clear hK K) | ((first | refine sC ?_ | (with_reducible first | refine ops_cons (fun K hK => ?_) | refine opsd_cons (fun K hK => ?_) | refine W_reg lv125FlAA ?_ | refine W_drw lv125FlAA (by kernel_rfl) ?_) | ((with_reducible refine opsd_nil ?_); refine And.intro (by kernel_rfl) ?_) | with_reducible refine callV_snap ?_ | with_reducible refine And.intro (fun h => ?_) (fun h => ?_) | with_reducible refine And.intro (by omega) ?_); (try simp only [go_sem, seval, reduceCtorEq, hli, lv125FlAA, Tryz.ntmps125, Tryz.results125, rUnmS])) | fail)
      refine W_ret (endQ_ret (end_at [2, 3, 4] ?_))
      simp [go_sem, Tryz.results125, UnmS]
end Go.Proofs.YtpocnjliigjidaaGreat
