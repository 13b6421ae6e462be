/- Contracts of the small functions of package slab. -/
import Derived.Test.YtimmmhfcfocjdaaRows
import Derived.Test.YtimmmhfcfocjdaaLib2
import Derived.Test.YtimmmhfcfocjdaaShelfBits
import Derived.Test.YtimmmhfcfocjdaaSlabP
set_option linter.unusedSimpArgs false
set_option linter.unusedVariables false
namespace Go.Proofs.Ytimmmhfcfocjdaa
open Go.RowKit

def sst (u : Int) : Int := if u = 0 then 1 else if u = 255 then 3 else 2
def schk (f : Int) : Int := if f < 0 ∨ 256 ≤ f then 2 else 0

theorem sCheck_any (f u : Int) (w : World) :
    Calls Try.prog 18 #[.agg #[.int .i64 f, .int .u8 u]] w fun e w' => e = .returned (.int .i64 (schk f)) ∧ w.alloc (.cells #[.int .i64 f, .int .u8 u] 29) = w' := by
  by_cases h1 : f < 0
  · have E : Hid (schk f = 2) := Lib.hid (by simp [schk, h1])
    go_enter Try.func18, Try.ntmps18
    go_wp2
    go_ret
    exact ⟨ret_int E.out.symm, rfl⟩
  · have d1 : decide (f < 0) = false := by simp; omega
    by_cases h2 : 256 ≤ f
    · have E : Hid (schk f = 2) := Lib.hid (by simp [schk, h2])
      go_enter Try.func18, Try.ntmps18
      go_wp2
      go_ret
      exact ⟨ret_int E.out.symm, rfl⟩
    · have E : Hid (schk f = 0) := Lib.hid (by simp [schk, h1, h2])
      go_enter Try.func18, Try.ntmps18
      go_wp2
      go_ret
      exact ⟨ret_int E.out.symm, rfl⟩

theorem stateOf_any (f u : Int) (w : World) :
    Calls Try.prog 37 #[.agg #[.int .i64 f, .int .u8 u]] w fun e w' => e = .returned (.int .i64 (sst u)) ∧ w.alloc (.cells #[.int .i64 f, .int .u8 u] 29) = w' := by
  by_cases h1 : u = 0
  · subst h1
    go_enter Try.func37, Try.ntmps37
    go_wp2
    go_ret
    exact ⟨rfl, rfl⟩
  · have d1 : (u == 0) = false := by simp [h1]
    by_cases h2 : u = 255
    · subst h2
      go_enter Try.func37, Try.ntmps37
      go_wp2
      go_ret
      exact ⟨rfl, rfl⟩
    · have d2 : (u == 255) = false := by simp [h2]
      have E : Hid (sst u = 2) := Lib.hid (by simp [sst, h1, h2])
      clear h1 h2
      go_enter Try.func37, Try.ntmps37
      go_wp2
      go_ret
      exact ⟨ret_int E.out.symm, rfl⟩

theorem bit_any (p : Int) (w : World) (h0 : 0 ≤ p) (h1 : p ≤ 7) :
    Calls Try.prog 39 #[.int .i64 p] w fun e w' => e = .returned (.int .u8 (2 ^ p.toNat)) ∧ w = w' := by
  have hp := pow8_bd p h0 h1
  go_enter Try.func39, Try.ntmps39
  go_wp2
  go_ret
  exact ⟨by first | rfl | (congr 2; (try simp [IntKind.wrap, IntKind.bits, IntKind.signed]); omega), rfl⟩

theorem Split_ok (o : Int) (w : World) (h0 : 0 ≤ o) (h1 : o < 2048) :
    Calls Try.prog 10 #[.int .i64 o] w fun e w' => e = .returned (.tuple #[.int .i64 (o / 8), .int .i64 (o % 8), .int .i64 0]) ∧ w = w' := by
  have d1 : decide (o < 0) = false := by simp; omega
  go_enter Try.func10, Try.ntmps10
  go_wp2
  go_ret3
  exact ⟨rfl, rfl⟩

theorem Split_no (o : Int) (w : World) (h : o < 0 ∨ 2048 ≤ o) :
    Calls Try.prog 10 #[.int .i64 o] w fun e w' => e = .returned (.tuple #[.int .i64 0, .int .i64 0, .int .i64 2]) ∧ w = w' := by
  by_cases h1 : o < 0
  · go_enter Try.func10, Try.ntmps10
    go_wp2
    go_ret3
    exact ⟨rfl, rfl⟩
  · have d1 : decide (o < 0) = false := by simp; omega
    have h2 : 2048 ≤ o := by omega
    go_enter Try.func10, Try.ntmps10
    go_wp2
    go_ret3
    exact ⟨rfl, rfl⟩

theorem tz8_any (u : Int) (w : World) (h0 : 0 ≤ u) (h1 : u ≤ 255) :
    Calls Try.prog 38 #[.int .u8 u] w fun e w' => e = .returned (.int .i64 (tz u)) ∧ w = w' := bits_TrailingZeros8 u w h0 h1

/-- what Alloc answers -/
def alE (f u : Int) : Int := if schk f ≠ 0 then schk f else if u = 255 then 5 else 0
def alF (f u : Int) : Int := if alE f u = 0 then f else 0
def alU (f u : Int) : Int := if alE f u = 0 then u + 2 ^ (plc u).toNat else 0
def alO (f u : Int) : Int := if alE f u = 0 then f * 8 + plc u else 0

theorem schk_zero {f : Int} (h : schk f = 0) : 0 ≤ f ∧ f < 256 := by
  unfold schk at h
  by_cases h1 : f < 0 ∨ 256 ≤ f
  · rw [if_pos h1] at h; omega
  · omega
theorem schk_ok {f : Int} (h : 0 ≤ f) (h' : f < 256) : schk f = 0 := by unfold schk; rw [if_neg (by omega)]

theorem Alloc_ok (f u : Int) (w : World) (h0 : 0 ≤ f) (h1 : f < 256) (h2 : 0 ≤ u) (h3 : u < 255) :
    Calls Try.prog 14 #[.agg #[.int .i64 f, .int .u8 u]] w fun e w' => e = .returned (.tuple #[.agg #[.int .i64 f, .int .u8 (u + 2 ^ (plc u).toNat)], .int .i64 (f * 8 + plc u), .int .i64 0]) ∧ Below w.heap.size w w' := by
  have E1 : (schk f != 0) = false := by simp [schk]; omega
  have E2 : (sst u == 3) = false := by simp [sst]; omega
  have E3 := not_u8 u h2 (by omega)
  have hpb := plc_bd u h2 (by omega)
  have hor := or_free u (plc u) h2 (by omega) hpb.1 hpb.2 (plc_free u h2 (by omega))
  have hw : IntKind.i64.wrap (f * 8) = f * 8 := IntWalk.i64_in _ (by omega)
  have hw2 : IntKind.i64.wrap (f * 8 + plc u) = f * 8 + plc u := IntWalk.i64_in _ (by omega)
  have e0 : tz (255 - u) = plc u := rfl
  go_enter Try.func14, Try.ntmps14
  go_wp2_with (first
    | (go_at_call 18; refine (sCheck_any _ _ _).mono ?_; rintro e w' ⟨rfl, rfl⟩)
    | (go_at_call 37; refine (stateOf_any _ _ _).mono ?_; rintro e w' ⟨rfl, rfl⟩)
    | (go_at_call 38; refine (tz8_any _ _ (by omega) (by omega)).mono ?_; rintro e w' ⟨rfl, rfl⟩; rw [e0]))
  go_region_with (go_at_call 39; refine (bit_any _ _ hpb.1 hpb.2).mono ?_; rintro e w' ⟨rfl, rfl⟩)
  all_goals go_wp2
  all_goals go_region
  all_goals go_wp2
  all_goals exact bodyPost_ret (v := .tuple #[.agg #[.int .i64 f, .int .u8 (u + 2 ^ (plc u).toNat)], .int .i64 (f * 8 + plc u), .int .i64 0]) (by simp [results, Try.results14, go_sem]) rfl ⟨rfl, (by repeat (first | exact Below.refl _ _ | assumption | apply Below.drew | apply b_drewN | apply b_alloc | (refine Below.setCell ?_ (by (try simp); (try omega)) _) | (refine b_then ?_ (by assumption))))⟩

theorem Alloc_any (f u : Int) (w : World) (h2 : 0 ≤ u) (h3 : u ≤ 255) :
    Calls Try.prog 14 #[.agg #[.int .i64 f, .int .u8 u]] w fun e w' => e = .returned (.tuple #[.agg #[.int .i64 (alF f u), .int .u8 (alU f u)], .int .i64 (alO f u), .int .i64 (alE f u)]) ∧ Below w.heap.size w w' := by
  by_cases hc : schk f = 0
  · obtain ⟨h0, h1⟩ := schk_zero hc
    by_cases hu : u = 255
    · subst hu
      have E1 : (schk f != 0) = false := by simp [hc]
      have e0 : alE f 255 = 5 := by simp [alE, hc]
      have E4 : Hid (alE f 255 = 5) := Lib.hid e0
      have E5 : Hid (alF f 255 = 0) := Lib.hid (by simp [alF, e0])
      have E6 : Hid (alU f 255 = 0) := Lib.hid (by simp [alU, e0])
      have E7 : Hid (alO f 255 = 0) := Lib.hid (by simp [alO, e0])
      have e1 : sst 255 = 3 := rfl
      clear hc e0
      go_enter Try.func14, Try.ntmps14
      go_wp2_with (first
        | (go_at_call 18; refine (sCheck_any _ _ _).mono ?_; rintro e w' ⟨rfl, rfl⟩)
        | (go_at_call 37; refine (stateOf_any _ _ _).mono ?_; rintro e w' ⟨rfl, rfl⟩))
      rw [E4.out, E5.out, E6.out, E7.out]
      exact bodyPost_ret (v := .tuple #[.agg #[.int .i64 0, .int .u8 0], .int .i64 0, .int .i64 5]) (by simp [results, Try.results14, go_sem]) rfl ⟨rfl, (by repeat (first | exact Below.refl _ _ | assumption | apply Below.drew | apply b_drewN | apply b_alloc | (refine Below.setCell ?_ (by (try simp); (try omega)) _) | (refine b_then ?_ (by assumption))))⟩
    · have e0 : alE f u = 0 := by simp [alE, hc, hu]
      rw [alF, alU, alO, e0, if_pos rfl, if_pos rfl, if_pos rfl]
      exact Alloc_ok f u w h0 h1 h2 (by omega)
  · have E1 : (schk f != 0) = true := by simp [hc]
    have e0 : alE f u = schk f := by simp [alE, hc]
    have E5 : Hid (alF f u = 0) := Lib.hid (by simp [alF, e0, hc])
    have E6 : Hid (alU f u = 0) := Lib.hid (by simp [alU, e0, hc])
    have E7 : Hid (alO f u = 0) := Lib.hid (by simp [alO, e0, hc])
    have E4 := Lib.hid e0
    clear hc e0
    go_enter Try.func14, Try.ntmps14
    go_wp2_with (go_at_call 18; refine (sCheck_any _ _ _).mono ?_; rintro e w' ⟨rfl, rfl⟩)
    rw [E4.out, E5.out, E6.out, E7.out]
    exact bodyPost_ret (v := .tuple #[.agg #[.int .i64 0, .int .u8 0], .int .i64 0, .int .i64 (schk f)]) (by simp [results, Try.results14, go_sem]) rfl ⟨rfl, (by repeat (first | exact Below.refl _ _ | assumption | apply Below.drew | apply b_drewN | apply b_alloc | (refine Below.setCell ?_ (by (try simp); (try omega)) _) | (refine b_then ?_ (by assumption))))⟩

/-- what Free answers -/
def frE (f u o : Int) : Int := if schk f ≠ 0 then schk f else if o < 0 ∨ 2048 ≤ o then 2 else if o / 8 ≠ f ∨ usd u (o % 8) = false then 6 else 0
def frF (f u o : Int) : Int := if frE f u o = 0 then f else 0
def frU (f u o : Int) : Int := if frE f u o = 0 then u - 2 ^ (o % 8).toNat else 0

theorem Free_any (f u o : Int) (w : World) (h2 : 0 ≤ u) (h3 : u ≤ 255) :
    Calls Try.prog 23 #[.agg #[.int .i64 f, .int .u8 u], .int .i64 o] w fun e w' => e = .returned (.tuple #[.agg #[.int .i64 (frF f u o), .int .u8 (frU f u o)], .int .i64 (frE f u o)]) ∧ Below w.heap.size w w' := by
  by_cases hc : schk f = 0
  · obtain ⟨h0, h1⟩ := schk_zero hc
    have E1 : (schk f != 0) = false := by simp [hc]
    by_cases ho : o < 0 ∨ 2048 ≤ o
    · have e0 : frE f u o = 2 := by simp [frE, hc, ho]
      have E5 : Hid (frF f u o = 0) := Lib.hid (by simp [frF, e0])
      have E6 : Hid (frU f u o = 0) := Lib.hid (by simp [frU, e0])
      have E4 := Lib.hid e0
      clear hc e0
      go_enter Try.func23, Try.ntmps23
      go_wp2_with (first
        | (go_at_call 18; refine (sCheck_any _ _ _).mono ?_; rintro e w' ⟨rfl, rfl⟩)
        | (go_at_call 10; refine (Split_no _ _ ho).mono ?_; rintro e w' ⟨rfl, rfl⟩))
      rw [E4.out, E5.out, E6.out]
      exact bodyPost_ret (v := .tuple #[.agg #[.int .i64 0, .int .u8 0], .int .i64 2]) (by simp [results, Try.results23, go_sem]) rfl ⟨rfl, (by repeat (first | exact Below.refl _ _ | assumption | apply Below.drew | apply b_drewN | apply b_alloc | (refine Below.setCell ?_ (by (try simp); (try omega)) _) | (refine b_then ?_ (by assumption))))⟩
    · have ho0 : 0 ≤ o := by omega
      have ho1 : o < 2048 := by omega
      have hp0 : 0 ≤ o % 8 := by omega
      have hp1 : o % 8 ≤ 7 := by omega
      by_cases hf : o / 8 = f
      · have hf' : (o / 8 != f) = false := by simp [hf]
        have hand := and_bit u (o % 8) h2 h3 hp0 hp1
        cases hus : usd u (o % 8) with
        | true =>
          have e0 : frE f u o = 0 := by unfold frE; rw [if_neg (by simp [hc]), if_neg ho, if_neg (by simp [hf, hus])]
          have E5 : Hid (frF f u o = f) := Lib.hid (by simp [frF, e0])
          have E6 : Hid (frU f u o = u - 2 ^ (o % 8).toNat) := Lib.hid (by simp [frU, e0])
          have E4 := Lib.hid e0
          have hnot := andNot_used u (o % 8) h2 h3 hp0 hp1 hus
          rw [hus] at hand
          have hand' : (bits BinOp.and IntKind.u8 u (2 ^ (o % 8).toNat) == 0) = false := hand
          have Hf := Lib.hid hf
          clear hc e0 ho hus hand hf
          go_enter Try.func23, Try.ntmps23
          go_wp2_with (first
            | (go_at_call 18; refine (sCheck_any _ _ _).mono ?_; rintro e w' ⟨rfl, rfl⟩)
            | (go_at_call 10; refine (Split_ok _ _ ho0 ho1).mono ?_; rintro e w' ⟨rfl, rfl⟩))
          go_quiet ((go_at_call 39; exact quiet_left (bit_any _ _ hp0 hp1)))
          go_wp2
          go_region_with (go_at_call 39; refine (bit_any _ _ hp0 hp1).mono ?_; rintro e w' ⟨rfl, rfl⟩)
          all_goals go_wp2
          all_goals rw [E4.out, E5.out, E6.out]
          all_goals exact bodyPost_ret (v := .tuple #[.agg #[.int .i64 f, .int .u8 (u - 2 ^ (o % 8).toNat)], .int .i64 0]) (by simp [results, Try.results23, go_sem]) rfl ⟨rfl, (by repeat (first | exact Below.refl _ _ | assumption | apply Below.drew | apply b_drewN | apply b_alloc | (refine Below.setCell ?_ (by (try simp); (try omega)) _) | (refine b_then ?_ (by assumption))))⟩
        | false =>
          have e0 : frE f u o = 6 := by unfold frE; rw [if_neg (by simp [hc]), if_neg ho, if_pos (by simp [hus])]
          have E5 : Hid (frF f u o = 0) := Lib.hid (by simp [frF, e0])
          have E6 : Hid (frU f u o = 0) := Lib.hid (by simp [frU, e0])
          have E4 := Lib.hid e0
          rw [hus] at hand
          have hand' : (bits BinOp.and IntKind.u8 u (2 ^ (o % 8).toNat) == 0) = true := hand
          clear hc e0 ho hus hand hf
          go_enter Try.func23, Try.ntmps23
          go_wp2_with (first
            | (go_at_call 18; refine (sCheck_any _ _ _).mono ?_; rintro e w' ⟨rfl, rfl⟩)
            | (go_at_call 10; refine (Split_ok _ _ ho0 ho1).mono ?_; rintro e w' ⟨rfl, rfl⟩))
          go_quiet ((go_at_call 39; exact quiet_left (bit_any _ _ hp0 hp1)))
          go_wp2
          rw [E4.out, E5.out, E6.out]
          exact bodyPost_ret (v := .tuple #[.agg #[.int .i64 0, .int .u8 0], .int .i64 6]) (by simp [results, Try.results23, go_sem]) rfl ⟨rfl, (by repeat (first | exact Below.refl _ _ | assumption | apply Below.drew | apply b_drewN | apply b_alloc | (refine Below.setCell ?_ (by (try simp); (try omega)) _) | (refine b_then ?_ (by assumption))))⟩
      · have hf' : (o / 8 != f) = true := by simp [hf]
        have e0 : frE f u o = 6 := by unfold frE; rw [if_neg (by simp [hc]), if_neg ho, if_pos (.inl hf)]
        have E5 : Hid (frF f u o = 0) := Lib.hid (by simp [frF, e0])
        have E6 : Hid (frU f u o = 0) := Lib.hid (by simp [frU, e0])
        have E4 := Lib.hid e0
        clear hc e0 ho hf
        go_enter Try.func23, Try.ntmps23
        go_wp2_with (first
          | (go_at_call 18; refine (sCheck_any _ _ _).mono ?_; rintro e w' ⟨rfl, rfl⟩)
          | (go_at_call 10; refine (Split_ok _ _ ho0 ho1).mono ?_; rintro e w' ⟨rfl, rfl⟩))
        go_quiet ((go_at_call 39; exact quiet_left (bit_any _ _ hp0 hp1)))
        go_wp2
        rw [E4.out, E5.out, E6.out]
        exact bodyPost_ret (v := .tuple #[.agg #[.int .i64 0, .int .u8 0], .int .i64 6]) (by simp [results, Try.results23, go_sem]) rfl ⟨rfl, (by repeat (first | exact Below.refl _ _ | assumption | apply Below.drew | apply b_drewN | apply b_alloc | (refine Below.setCell ?_ (by (try simp); (try omega)) _) | (refine b_then ?_ (by assumption))))⟩
  · have E1 : (schk f != 0) = true := by simp [hc]
    have e0 : frE f u o = schk f := by simp [frE, hc]
    have E5 : Hid (frF f u o = 0) := Lib.hid (by simp [frF, e0, hc])
    have E6 : Hid (frU f u o = 0) := Lib.hid (by simp [frU, e0, hc])
    have E4 := Lib.hid e0
    clear hc e0
    go_enter Try.func23, Try.ntmps23
    go_wp2_with (go_at_call 18; refine (sCheck_any _ _ _).mono ?_; rintro e w' ⟨rfl, rfl⟩)
    rw [E4.out, E5.out, E6.out]
    exact bodyPost_ret (v := .tuple #[.agg #[.int .i64 0, .int .u8 0], .int .i64 (schk f)]) (by simp [results, Try.results23, go_sem]) rfl ⟨rfl, (by repeat (first | exact Below.refl _ _ | assumption | apply Below.drew | apply b_drewN | apply b_alloc | (refine Below.setCell ?_ (by (try simp); (try omega)) _) | (refine b_then ?_ (by assumption))))⟩
end Go.Proofs.Ytimmmhfcfocjdaa
