/- Contracts: checkSmall, Buddy, Parent of package order; size, Size, Check, buddy, Buddy, Parent of the reference. -/
import Derived.Test.YtdgeahemjcopkaaOrdA
set_option linter.unusedSimpArgs false
set_option linter.unusedVariables false
namespace Go.Proofs.Ytdgeahemjcopkaa
open Go.RowKit

theorem chk_zero {a o : Int} (h : chk a o = 0) : 0 ≤ o ∧ o ≤ 6 ∧ 0 ≤ a ∧ a % 2 ^ o.toNat = 0 ∧ a ≤ 256 - 2 ^ o.toNat := by
  unfold chk at h
  by_cases h1 : o < 0 ∨ 6 < o
  · rw [if_pos h1] at h; omega
  rw [if_neg h1] at h
  by_cases h2 : a < 0
  · rw [if_pos h2] at h; omega
  rw [if_neg h2] at h
  by_cases h3 : a % 2 ^ o.toNat ≠ 0
  · rw [if_pos h3] at h; omega
  rw [if_neg h3] at h
  by_cases h4 : a > 256 - 2 ^ o.toNat
  · rw [if_pos h4] at h; omega
  simp only [ne_eq, Decidable.not_not] at h3
  exact ⟨by omega, by omega, by omega, h3, by omega⟩

theorem chk_bd (a o : Int) : 0 ≤ chk a o ∧ chk a o ≤ 13 := by
  unfold chk
  repeat' split
  all_goals omega

/-- what checkSmall answers -/
def chkS (a o : Int) : Int := if chk a o ≠ 0 then chk a o else if o = 6 then 2 else 0

theorem chkS_zero {a o : Int} (h : chkS a o = 0) : chk a o = 0 ∧ o ≠ 6 := by
  unfold chkS at h
  by_cases h1 : chk a o ≠ 0
  · rw [if_pos h1] at h; omega
  rw [if_neg h1] at h
  simp only [ne_eq, Decidable.not_not] at h1
  refine ⟨h1, ?_⟩
  intro h2
  rw [if_pos h2] at h; omega

theorem checkSmall_any (a o : Int) (w : World) (hb : a ≤ 9223372036854775807) :
    Calls Try.prog 40 #[.agg #[.int .i64 a, .int .i64 o]] w fun e w' => e = .returned (.int .i64 (chkS a o)) ∧ (w.alloc (.cells #[.int .i64 a, .int .i64 o] 30)).alloc (.cells #[.int .i64 a, .int .i64 o] 30) = w' := by
  by_cases h : chk a o = 0
  · have h' : (chk a o != 0) = false := by simp [h]
    have E : Hid (chkS a o = if o = 6 then 2 else 0) := Lib.hid (by simp [chkS, h])
    clear h
    by_cases h6 : o = 6
    · have h6' : (o == 6) = true := by simp [h6]
      have H6 := Lib.hid h6; clear h6
      go_enter Try.func40, Try.ntmps40
      go_wp2_with (go_at_call 19; refine (Check_any _ _ _ hb).mono ?_; rintro e w' ⟨rfl, rfl⟩)
      go_ret
      exact ⟨ret_int (by rw [E.out]; simp [H6.out]), rfl⟩
    · have h6' : (o == 6) = false := by simp [h6]
      have H6 := Lib.hid h6; clear h6
      go_enter Try.func40, Try.ntmps40
      go_wp2_with (go_at_call 19; refine (Check_any _ _ _ hb).mono ?_; rintro e w' ⟨rfl, rfl⟩)
      go_ret
      exact ⟨ret_int (by rw [E.out]; simp [H6.out]), rfl⟩
  · have h' : (chk a o != 0) = true := by simp [h]
    have E : Hid (chkS a o = chk a o) := Lib.hid (by simp [chkS, h])
    clear h
    go_enter Try.func40, Try.ntmps40
    go_wp2_with (go_at_call 19; refine (Check_any _ _ _ hb).mono ?_; rintro e w' ⟨rfl, rfl⟩)
    go_ret
    exact ⟨ret_int E.out.symm, rfl⟩

/-- the buddy and the parent of a block that has one -/
def bud (a o : Int) : Int := if a % (2 * 2 ^ o.toNat) = 0 then a + 2 ^ o.toNat else a - 2 ^ o.toNat
def par (a o : Int) : Int := if a % (2 * 2 ^ o.toNat) = 0 then a else a - 2 ^ o.toNat
def budA (a o : Int) : Int := if chkS a o = 0 then bud a o else 0
def budO (a o : Int) : Int := if chkS a o = 0 then o else 0
def parA (a o : Int) : Int := if chkS a o = 0 then par a o else 0
def parO (a o : Int) : Int := if chkS a o = 0 then o + 1 else 0

theorem Buddy_any (a o : Int) (w : World) (hb : a ≤ 9223372036854775807) :
    Calls Try.prog 15 #[.agg #[.int .i64 a, .int .i64 o]] w fun e w' => e = .returned (.tuple #[.agg #[.int .i64 (budA a o), .int .i64 (budO a o)], .int .i64 (chkS a o)]) ∧ Below w.heap.size w w' := by
  by_cases h : chkS a o = 0
  · have h' : (chkS a o != 0) = false := by simp [h]
    obtain ⟨h1, h2⟩ := chkS_zero h
    obtain ⟨b0, b1, b2, b3, b4⟩ := chk_zero h1
    have hp := pow_bd o b0 b1
    have E1 : Hid (budA a o = bits .xor .i64 a (2 ^ o.toNat)) := Lib.hid (by rw [xor_pow a o b0 b1 b2 (by omega) b3]; simp [budA, bud, h])
    have E2 : Hid (budO a o = o) := Lib.hid (by simp [budO, h])
    have E3 := Lib.hid h
    clear h h1 h2 b3
    go_enter Try.func15, Try.ntmps15
    go_wp2_with (first
      | (go_at_call 40; refine (checkSmall_any _ _ _ hb).mono ?_; rintro e w' ⟨rfl, rfl⟩)
      | (go_at_call 41; refine (buddyOf_any _ _ _ b0 b1).mono ?_; rintro e w1 ⟨rfl, hb1⟩; obtain ⟨hc, hf⟩ := bcell hb1))
    rw [E1.out, E2.out, E3.out]
    exact bodyPost_ret (v := .tuple #[.agg #[.int .i64 (bits .xor .i64 a (2 ^ o.toNat)), .int .i64 o], .int .i64 0]) (by simp [results, Try.results15, go_sem, hc]) rfl
      ⟨rfl, (by repeat (first | exact Below.refl _ _ | assumption | apply Below.drew | apply b_drewN | apply b_alloc | (refine Below.setCell ?_ (by (try simp); (try omega)) _) | (refine b_then ?_ (by assumption))))⟩
  · have h' : (chkS a o != 0) = true := by simp [h]
    have E1 : Hid (budA a o = 0) := Lib.hid (by simp [budA, h])
    have E2 : Hid (budO a o = 0) := Lib.hid (by simp [budO, h])
    clear h
    go_enter Try.func15, Try.ntmps15
    go_wp2_with (go_at_call 40; refine (checkSmall_any _ _ _ hb).mono ?_; rintro e w' ⟨rfl, rfl⟩)
    rw [E1.out, E2.out]
    exact bodyPost_ret (v := .tuple #[.agg #[.int .i64 0, .int .i64 0], .int .i64 (chkS a o)]) (by simp [results, Try.results15, go_sem]) rfl ⟨rfl, (by repeat (first | exact Below.refl _ _ | assumption | apply Below.drew | apply b_drewN | apply b_alloc | (refine Below.setCell ?_ (by (try simp); (try omega)) _) | (refine b_then ?_ (by assumption))))⟩

theorem Parent_any (a o : Int) (w : World) (hb : a ≤ 9223372036854775807) :
    Calls Try.prog 17 #[.agg #[.int .i64 a, .int .i64 o]] w fun e w' => e = .returned (.tuple #[.agg #[.int .i64 (parA a o), .int .i64 (parO a o)], .int .i64 (chkS a o)]) ∧ Below w.heap.size w w' := by
  by_cases h : chkS a o = 0
  · have h' : (chkS a o != 0) = false := by simp [h]
    obtain ⟨h1, h2⟩ := chkS_zero h
    obtain ⟨b0, b1, b2, b3, b4⟩ := chk_zero h1
    have hp := pow_bd o b0 b1
    have E1 : Hid (parA a o = bits .andNot .i64 a (2 ^ o.toNat)) := Lib.hid (by rw [andNot_pow a o b0 b1 b2 (by omega) b3]; simp [parA, par, h])
    have E2 : Hid (parO a o = o + 1) := Lib.hid (by simp [parO, h])
    have E3 := Lib.hid h
    clear h h1 h2 b3
    go_enter Try.func17, Try.ntmps17
    go_wp2_with (first
      | (go_at_call 40; refine (checkSmall_any _ _ _ hb).mono ?_; rintro e w' ⟨rfl, rfl⟩)
      | (go_at_call 43; refine (parentOf_any _ _ _ b0 b1).mono ?_; rintro e w1 ⟨rfl, hb1⟩; obtain ⟨hc, hf⟩ := bcell hb1))
    rw [E1.out, E2.out, E3.out]
    exact bodyPost_ret (v := .tuple #[.agg #[.int .i64 (bits .andNot .i64 a (2 ^ o.toNat)), .int .i64 (o + 1)], .int .i64 0]) (by simp [results, Try.results17, go_sem, hc]) rfl ⟨rfl, (by repeat (first | exact Below.refl _ _ | assumption | apply Below.drew | apply b_drewN | apply b_alloc | (refine Below.setCell ?_ (by (try simp); (try omega)) _) | (refine b_then ?_ (by assumption))))⟩
  · have h' : (chkS a o != 0) = true := by simp [h]
    have E1 : Hid (parA a o = 0) := Lib.hid (by simp [parA, h])
    have E2 : Hid (parO a o = 0) := Lib.hid (by simp [parO, h])
    clear h
    go_enter Try.func17, Try.ntmps17
    go_wp2_with (go_at_call 40; refine (checkSmall_any _ _ _ hb).mono ?_; rintro e w' ⟨rfl, rfl⟩)
    rw [E1.out, E2.out]
    exact bodyPost_ret (v := .tuple #[.agg #[.int .i64 0, .int .i64 0], .int .i64 (chkS a o)]) (by simp [results, Try.results17, go_sem]) rfl ⟨rfl, (by repeat (first | exact Below.refl _ _ | assumption | apply Below.drew | apply b_drewN | apply b_alloc | (refine Below.setCell ?_ (by (try simp); (try omega)) _) | (refine b_then ?_ (by assumption))))⟩

/-! the reference -/
theorem rsize_any (o : Int) (w : World) (h0 : 0 ≤ o) (h1 : o ≤ 6) :
    Calls Try.prog 39 #[.int .i64 o] w fun e w' => e = .returned (.int .i64 (2 ^ o.toNat)) ∧ w = w' := by
  go_enter Try.func39, Try.ntmps39
  go_wp2
  go_loop [3, 4] (fun n i => ∃ k : Nat, (k : Int) ≤ o ∧ i = .int .i64 k ∧ n = .int .i64 (2 ^ k)) (fun _ i => o.toNat - (intOf i).toNat)
  case atStart => exact ⟨0, by omega, rfl, rfl⟩
  case round =>
    obtain ⟨k, hk, rfl, rfl⟩ := hrel
    have hp := pow_bd k (by omega) (by omega)
    rw [Int.toNat_natCast] at hp
    by_cases hlt : (k : Int) < o
    · go_wp2
      go_round
      case rel => exact ⟨k + 1, by omega, by go_num, by rw [Int.pow_succ, Int.mul_comm]⟩
      case measure => simp [intOf]; omega
    · obtain rfl : o = k := by omega
      go_wp2
      go_ret
      exact ⟨ret_int (by simp), rfl⟩

theorem rCheck_any (a o : Int) (w : World) :
    Calls Try.prog 20 #[.agg #[.int .i64 a, .int .i64 o]] w fun e w' => e = .returned (.int .i64 (chk a o)) ∧ ∃ n, w' = (w.alloc (.cells #[.int .i64 a, .int .i64 o] 30)).drewN n := by
  by_cases h : o < 0 ∨ 6 < o
  · have e : Hid (chk a o = 2) := Lib.hid (by simp [chk, h])
    rcases h with h | h
    · go_enter Try.func20, Try.ntmps20
      go_wp2
      go_ret
      exact ⟨ret_int e.out.symm, 0, rfl⟩
    · have h' : decide (o < 0) = false := by simp; omega
      go_enter Try.func20, Try.ntmps20
      go_wp2
      go_ret
      exact ⟨ret_int e.out.symm, 0, rfl⟩
  · have h0 : 0 ≤ o := by omega
    have h1 : o ≤ 6 := by omega
    have h0' : decide (o < 0) = false := by simp; omega
    have h1' : decide (6 < o) = false := by simp; omega
    have hp := pow_bd o h0 h1
    by_cases ha : a < 0
    · have e : Hid (chk a o = 2) := Lib.hid (by simp [chk, ha])
      go_enter Try.func20, Try.ntmps20
      go_wp2
      go_ret
      exact ⟨ret_int e.out.symm, 0, rfl⟩
    · have ha' : decide (a < 0) = false := by simp; omega
      have hw : IntKind.i64.wrap (256 - 2 ^ o.toNat) = 256 - 2 ^ o.toNat := IntWalk.i64_in _ (by omega)
      have hr : a.tmod (2 ^ o.toNat) = a % 2 ^ o.toNat := Int.tmod_eq_emod_of_nonneg (by omega)
      by_cases hz : a % 2 ^ o.toNat = 0
      · have hz' : (a % 2 ^ o.toNat != 0) = false := by simp [hz]
        have E : Hid (chk a o = if a > 256 - 2 ^ o.toNat then 2 else 0) := Lib.hid (by simp [chk, h, ha, hz])
        clear h hz
        by_cases hg : a > 256 - 2 ^ o.toNat
        all_goals
          go_enter Try.func20, Try.ntmps20
          go_wp2
          go_quiet ((go_at_call 39; exact quiet_left (rsize_any _ _ h0 h1)))
          go_wp2
          go_quiet ((go_at_call 39; exact quiet_add_left (rsize_any _ _ h0 h1)))
          go_wp2
          go_ret
          exact ⟨ret_int (by rw [E.out]; simp [hg]), _, by rw [World.drewN_drewN]⟩
      · have hz' : (a % 2 ^ o.toNat != 0) = true := by simp [hz]
        have E : Hid (chk a o = 13) := Lib.hid (by simp [chk, h, ha, hz])
        clear h hz
        go_enter Try.func20, Try.ntmps20
        go_wp2
        go_quiet ((go_at_call 39; exact quiet_left (rsize_any _ _ h0 h1)))
        go_wp2
        go_ret
        exact ⟨ret_int E.out.symm, _, rfl⟩

theorem rbuddy_any (a o : Int) (w : World) (h0 : 0 ≤ o) (h1 : o ≤ 6) (ha : 0 ≤ a) (hb : a ≤ 256) :
    Calls Try.prog 42 #[.agg #[.int .i64 a, .int .i64 o]] w fun e w' => e = .returned (.agg #[.int .i64 (bud a o), .int .i64 o]) ∧ Below w.heap.size w w' := by
  have hp := pow_bd o h0 h1
  by_cases hz : a % (2 * 2 ^ o.toNat) = 0
  · have hz' : (a % (2 * 2 ^ o.toNat) == 0) = true := by simp [hz]
    have E : Hid (bud a o = a + 2 ^ o.toNat) := Lib.hid (by simp [bud, hz])
    clear hz
    go_enter Try.func42, Try.ntmps42
    go_wp2_with (go_at_call 39; refine (rsize_any _ _ h0 h1).mono ?_; rintro e w' ⟨rfl, rfl⟩)
    rw [E.out]
    exact bodyPost_ret (v := .agg #[.int .i64 (a + 2 ^ o.toNat), .int .i64 o]) (by simp [results, Try.results42, go_sem]) rfl ⟨rfl, (by repeat (first | exact Below.refl _ _ | assumption | apply Below.drew | apply b_drewN | apply b_alloc | (refine Below.setCell ?_ (by (try simp); (try omega)) _) | (refine b_then ?_ (by assumption))))⟩
  · have hz' : (a % (2 * 2 ^ o.toNat) == 0) = false := by simp [hz]
    have E : Hid (bud a o = a - 2 ^ o.toNat) := Lib.hid (by simp [bud, hz])
    clear hz
    go_enter Try.func42, Try.ntmps42
    go_wp2_with (go_at_call 39; refine (rsize_any _ _ h0 h1).mono ?_; rintro e w' ⟨rfl, rfl⟩)
    rw [E.out]
    exact bodyPost_ret (v := .agg #[.int .i64 (a - 2 ^ o.toNat), .int .i64 o]) (by simp [results, Try.results42, go_sem]) rfl ⟨rfl, (by repeat (first | exact Below.refl _ _ | assumption | apply Below.drew | apply b_drewN | apply b_alloc | (refine Below.setCell ?_ (by (try simp); (try omega)) _) | (refine b_then ?_ (by assumption))))⟩

theorem rBuddy_any (a o : Int) (w : World) :
    Calls Try.prog 16 #[.agg #[.int .i64 a, .int .i64 o]] w fun e w' => e = .returned (.tuple #[.agg #[.int .i64 (budA a o), .int .i64 (budO a o)], .int .i64 (chkS a o)]) ∧ Below w.heap.size w w' := by
  by_cases h : chk a o = 0
  · obtain ⟨b0, b1, b2, b3, b4⟩ := chk_zero h
    have hp := pow_bd o b0 b1
    have h1 : (chk a o == 0) = true := by simp [h]
    have h2 : (chk a o != 0) = false := by simp [h]
    by_cases h6 : o = 6
    · have h6' : (o == 6) = true := by simp [h6]
      have e0 : chkS a o = 2 := by unfold chkS; rw [if_neg (by simp [h]), if_pos h6]
      have E1 : Hid (budA a o = 0) := Lib.hid (by simp [budA, e0])
      have E2 : Hid (budO a o = 0) := Lib.hid (by simp [budO, e0])
      have E3 := Lib.hid e0
      clear e0
      clear h h6 b3
      go_enter Try.func16, Try.ntmps16
      go_wp2_with (go_at_call 20; refine (rCheck_any _ _ _).mono ?_; rintro e w' ⟨rfl, n, rfl⟩)
      rw [E1.out, E2.out, E3.out]
      exact bodyPost_ret (v := .tuple #[.agg #[.int .i64 0, .int .i64 0], .int .i64 2]) (by simp [results, Try.results16, go_sem]) rfl ⟨rfl, (by repeat (first | exact Below.refl _ _ | assumption | apply Below.drew | apply b_drewN | apply b_alloc | (refine Below.setCell ?_ (by (try simp); (try omega)) _) | (refine b_then ?_ (by assumption))))⟩
    · have h6' : (o == 6) = false := by simp [h6]
      have E1 : Hid (budA a o = bud a o) := Lib.hid (by simp [budA, chkS, h, h6])
      have E2 : Hid (budO a o = o) := Lib.hid (by simp [budO, chkS, h, h6])
      have E3 : Hid (chkS a o = 0) := Lib.hid (by simp [chkS, h, h6])
      clear h h6 b3
      go_enter Try.func16, Try.ntmps16
      go_wp2_with (first
        | (go_at_call 20; refine (rCheck_any _ _ _).mono ?_; rintro e w' ⟨rfl, n, rfl⟩)
        | (go_at_call 42; refine (rbuddy_any _ _ _ b0 b1 b2 (by omega)).mono ?_; rintro e w1 ⟨rfl, hb1⟩; obtain ⟨hc, hf⟩ := bcell hb1))
      rw [E1.out, E2.out, E3.out]
      exact bodyPost_ret (v := .tuple #[.agg #[.int .i64 (bud a o), .int .i64 o], .int .i64 0]) (by simp [results, Try.results16, go_sem, hc]) rfl ⟨rfl, (by repeat (first | exact Below.refl _ _ | assumption | apply Below.drew | apply b_drewN | apply b_alloc | (refine Below.setCell ?_ (by (try simp); (try omega)) _) | (refine b_then ?_ (by assumption))))⟩
  · have h1 : (chk a o == 0) = false := by simp [h]
    have h2 : (chk a o != 0) = true := by simp [h]
    have E1 : Hid (budA a o = 0) := Lib.hid (by simp [budA, chkS, h])
    have E2 : Hid (budO a o = 0) := Lib.hid (by simp [budO, chkS, h])
    have E3 : Hid (chkS a o = chk a o) := Lib.hid (by simp [chkS, h])
    clear h
    go_enter Try.func16, Try.ntmps16
    go_wp2_with (go_at_call 20; refine (rCheck_any _ _ _).mono ?_; rintro e w' ⟨rfl, n, rfl⟩)
    rw [E1.out, E2.out, E3.out]
    exact bodyPost_ret (v := .tuple #[.agg #[.int .i64 0, .int .i64 0], .int .i64 (chk a o)]) (by simp [results, Try.results16, go_sem]) rfl ⟨rfl, (by repeat (first | exact Below.refl _ _ | assumption | apply Below.drew | apply b_drewN | apply b_alloc | (refine Below.setCell ?_ (by (try simp); (try omega)) _) | (refine b_then ?_ (by assumption))))⟩

theorem par_min (a o : Int) (h0 : 0 ≤ o) (h1 : o ≤ 6) : min a (bud a o) = par a o := by
  have hp := pow_bd o h0 h1
  unfold bud par
  split <;> omega

theorem rParent_any (a o : Int) (w : World) :
    Calls Try.prog 18 #[.agg #[.int .i64 a, .int .i64 o]] w fun e w' => e = .returned (.tuple #[.agg #[.int .i64 (parA a o), .int .i64 (parO a o)], .int .i64 (chkS a o)]) ∧ Below w.heap.size w w' := by
  by_cases h : chkS a o = 0
  · have h' : (chkS a o != 0) = false := by simp [h]
    obtain ⟨h1, h2⟩ := chkS_zero h
    obtain ⟨b0, b1, b2, b3, b4⟩ := chk_zero h1
    have hp := pow_bd o b0 b1
    have E1 : Hid (parA a o = min a (budA a o)) := Lib.hid (by simp only [parA, budA, h, if_true]; rw [par_min a o b0 b1])
    have E2 : Hid (parO a o = o + 1) := Lib.hid (by simp [parO, h])
    have E3 := Lib.hid h
    clear h h1 h2 b3
    go_enter Try.func18, Try.ntmps18
    go_wp2_with (go_at_call 16; refine (rBuddy_any _ _ _).mono ?_; rintro e w1 ⟨rfl, hb1⟩; obtain ⟨hc, hf⟩ := bcell hb1; have hz0 : w.heap.size < w1.heap.size := b_lt hb1 (by (try simp); (try omega)); have hz : w.heap.size + 1 < w1.heap.size := b_lt hb1 (by (try simp); (try omega)))
    all_goals rw [E1.out, E2.out, E3.out]
    · exact bodyPost_ret (v := .tuple #[.agg #[.int .i64 (budA a o), .int .i64 (o + 1)], .int .i64 0]) (by simp [results, Try.results18, go_sem, hc, hz]) rfl ⟨by rw [show min a (budA a o) = budA a o by omega], (by repeat (first | exact Below.refl _ _ | assumption | apply Below.drew | apply b_drewN | apply b_alloc | (refine Below.setCell ?_ (by (try simp); (try omega)) _) | (refine b_then ?_ (by assumption))))⟩
    · exact bodyPost_ret (v := .tuple #[.agg #[.int .i64 a, .int .i64 (o + 1)], .int .i64 0]) (by simp [results, Try.results18, go_sem, hc, hz]) rfl ⟨by rw [show min a (budA a o) = a by omega], (by repeat (first | exact Below.refl _ _ | assumption | apply Below.drew | apply b_drewN | apply b_alloc | (refine Below.setCell ?_ (by (try simp); (try omega)) _) | (refine b_then ?_ (by assumption))))⟩
  · have h' : (chkS a o != 0) = true := by simp [h]
    have E1 : Hid (parA a o = 0) := Lib.hid (by simp [parA, h])
    have E2 : Hid (parO a o = 0) := Lib.hid (by simp [parO, h])
    clear h
    go_enter Try.func18, Try.ntmps18
    go_wp2_with (go_at_call 16; refine (rBuddy_any _ _ _).mono ?_; rintro e w1 ⟨rfl, hb1⟩; obtain ⟨hc, hf⟩ := bcell hb1; have hz0 : w.heap.size < w1.heap.size := b_lt hb1 (by (try simp); (try omega)); have hz : w.heap.size + 1 < w1.heap.size := b_lt hb1 (by (try simp); (try omega)))
    rw [E1.out, E2.out]
    exact bodyPost_ret (v := .tuple #[.agg #[.int .i64 0, .int .i64 0], .int .i64 (chkS a o)]) (by simp [results, Try.results18, go_sem, hc, hz]) rfl ⟨rfl, (by repeat (first | exact Below.refl _ _ | assumption | apply Below.drew | apply b_drewN | apply b_alloc | (refine Below.setCell ?_ (by (try simp); (try omega)) _) | (refine b_then ?_ (by assumption))))⟩
end Go.Proofs.Ytdgeahemjcopkaa
