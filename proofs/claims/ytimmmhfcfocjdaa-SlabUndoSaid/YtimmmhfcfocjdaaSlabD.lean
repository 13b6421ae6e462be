/- The reference's functions on one slab. -/
import Derived.Test.YtimmmhfcfocjdaaSlabC
import Derived.Test.YtimmmhfcfocjdaaSlabB
set_option linter.unusedSimpArgs false
set_option linter.unusedVariables false
namespace Go.Proofs.Ytimmmhfcfocjdaa
open Go.RowKit

theorem rsCheck_any (f u : Int) (w : World) :
    Calls Try.prog 19 #[.agg #[.int .i64 f, .int .u8 u]] w fun e w' => e = .returned (.int .i64 (schk f)) ∧ w.alloc (.cells #[.int .i64 f, .int .u8 u] 29) = w' := by
  by_cases h1 : f < 0
  · have E : Hid (schk f = 2) := Lib.hid (by simp [schk, h1])
    go_enter Try.func19, Try.ntmps19
    go_wp2
    go_ret
    exact ⟨ret_int E.out.symm, rfl⟩
  · have d1 : decide (f < 0) = false := by simp; omega
    by_cases h2 : 256 ≤ f
    · have E : Hid (schk f = 2) := Lib.hid (by simp [schk, h2])
      go_enter Try.func19, Try.ntmps19
      go_wp2
      go_ret
      exact ⟨ret_int E.out.symm, rfl⟩
    · have E : Hid (schk f = 0) := Lib.hid (by simp [schk, h1, h2])
      go_enter Try.func19, Try.ntmps19
      go_wp2
      go_ret
      exact ⟨ret_int E.out.symm, rfl⟩

theorem usd_tmod (u p : Int) (h0 : 0 ≤ u) (p0 : 0 ≤ p) (p1 : p ≤ 7) : ((u / 2 ^ p.toNat).tmod 2 == 1) = usd u p := by
  have hp := pow8_bd p p0 p1
  have : 0 ≤ u / 2 ^ p.toNat := Int.ediv_nonneg h0 (by omega)
  rw [Int.tmod_eq_emod_of_nonneg this]
  unfold usd
  rw [Bool.eq_iff_iff]; simp

theorem rused_any (f u p : Int) (w : World) (h0 : 0 ≤ u) (_ : u ≤ 255) (p0 : 0 ≤ p) (p1 : p ≤ 7) :
    Calls Try.prog 41 #[.agg #[.int .i64 f, .int .u8 u], .int .i64 p] w fun e w' => e = .returned (.bool (usd u p)) ∧ w.alloc (.cells #[.int .i64 f, .int .u8 u] 29) = w' := by
  have hp := pow8_bd p p0 p1
  have E := Lib.hid (usd_tmod u p h0 p0 p1)
  go_enter Try.func41, Try.ntmps41
  go_wp2
  go_ret
  exact ⟨ret_bool E.out, rfl⟩

theorem plc_eq (u : Int) (k : Nat) (h0 : 0 ≤ u) (h1 : u ≤ 255) (hk : k < 8) (ha : ∀ j, j < k → usd u (j : Int) = true) (hn : usd u (k : Int) = false) : plc u = k := by
  have h := of_fin8 (Q := fun u p => ((List.range p.toNat).all fun j => usd u (j : Int)) = true → usd u p = false → plc u = p) (by decide +kernel) u k h0 h1 (by omega) (by omega)
  refine h ?_ hn
  rw [List.all_eq_true]
  intro j hj
  exact ha j (by simpa using hj)
theorem all_full (u : Int) (h0 : 0 ≤ u) (h1 : u ≤ 255) (ha : ∀ j : Nat, j < 8 → usd u (j : Int) = true) : u = 255 := by
  have h := of_fin (Q := fun u => ((List.range 8).all fun j => usd u (j : Int)) = true → u = 255) (by decide +kernel) u h0 h1
  refine h ?_
  rw [List.all_eq_true]
  intro j hj
  exact ha j (by simpa using hj)

set_option maxHeartbeats 1000000 in
theorem rAlloc_any (f u : Int) (w : World) (h2 : 0 ≤ u) (h3 : u ≤ 255) :
    Calls Try.prog 22 #[.agg #[.int .i64 f, .int .u8 u]] w fun e w' => e = .returned (.tuple #[.agg #[.int .i64 (alF f u), .int .u8 (alU f u)], .int .i64 (alO f u), .int .i64 (alE f u)]) ∧ Below w.heap.size w w' := by
  by_cases hc : schk f = 0
  · obtain ⟨h0, h1⟩ := schk_zero hc
    have E1 : (schk f != 0) = false := by simp [hc]
    have Hc := Lib.hid hc
    clear hc
    go_enter Try.func22, Try.ntmps22
    go_wp2_with fail
    refine (rsCheck_any _ _ _).mono ?_
    rintro e w' ⟨rfl, rfl⟩
    go_wp2_with fail
    go_loopw [6] (fun i wr => ∃ k : Nat, k ≤ 8 ∧ i = .int .i64 k ∧ Hid (∀ j, j < k → usd u (j : Int) = true) ∧ Blk wr w.heap.size 29 #[.int .i64 f, .int .u8 u] ∧ Blk wr (w.heap.size + 1) 29 #[.int .i64 0, .int .u8 0] ∧ Below w.heap.size w wr) (fun i _ => 8 - (intOf i).toNat)
    case atStart => exact ⟨0, by omega, rfl, fun j hj => absurd hj (by omega), ((Blk.new _ _ _).alloc _).alloc _, (blk_new (by simp)).alloc _, (by repeat (first | exact Below.refl _ _ | assumption | apply Below.drew | apply b_drewN | apply b_alloc | (refine Below.setCell ?_ (by (try simp); (try omega)) _) | (refine b_then ?_ (by assumption))))⟩
    case round =>
      obtain ⟨k, hk, rfl, hall, hs, hr, hbel⟩ := hrel
      have c0 : wr.cell? ⟨w.heap.size, 0, none⟩ = some (.int .i64 f) := hs.cell 0
      have c1 : wr.cell? ⟨w.heap.size, 1, none⟩ = some (.int .u8 u) := hs.cell 1
      have r0 : wr.cell? ⟨w.heap.size + 1, 0, none⟩ = some (.int .i64 0) := hr.cell 0
      have r1 : wr.cell? ⟨w.heap.size + 1, 1, none⟩ = some (.int .u8 0) := hr.cell 1
      have q0 := hr.frozen 0
      have q1 := hr.frozen 1
      have l0 := hs.lt
      have l1 := hr.lt
      by_cases hlt : k < 8
      · have hp := pow8_bd k (by omega) (by omega)
        rw [Int.toNat_natCast] at hp
        cases hu : usd u (k : Int) with
        | true =>
          have hall2 : Hid (∀ j, j < k + 1 → usd u (j : Int) = true) := Lib.hid (fun j hj => by
            by_cases e : j = k
            · subst e; exact hu
            · exact hall.out j (by omega))
          go_wp2_with (go_at_call 41; refine (rused_any _ _ _ _ h2 h3 (by omega) (by omega)).mono ?_; rintro e w' ⟨rfl, rfl⟩)
          go_roundw
          case rel => exact ⟨k + 1, by omega, by go_num, hall2.out, hs.alloc _, hr.alloc _, (by repeat (first | exact Below.refl _ _ | assumption | apply Below.drew | apply b_drewN | apply b_alloc | (refine Below.setCell ?_ (by (try simp); (try omega)) _) | (refine b_then ?_ (by assumption))))⟩
          case measure => simp [intOf]; omega
        | false =>
          have hpl := plc_eq u k h2 h3 hlt hall.out hu
          have hfb := free_bd u k h2 h3 (by omega) (by omega) hu
          rw [Int.toNat_natCast] at hfb
          have hne : u ≠ 255 := by omega
          have e0 : alE f u = 0 := by simp [alE, Hc.out, hne]
          have F1 : Hid (alF f u = f) := Lib.hid (by simp [alF, e0])
          have F2 : Hid (alU f u = u + 2 ^ k) := Lib.hid (by simp [alU, e0, hpl])
          have F3 : Hid (alO f u = 8 * f + k) := Lib.hid (by simp [alO, e0, hpl]; omega)
          have F4 := Lib.hid e0
          have hw1 : IntKind.u8.wrap (u + 2 ^ k) = u + 2 ^ k := by simp [IntKind.wrap, IntKind.bits, IntKind.signed]; omega
          have hw2 : IntKind.i64.wrap (8 * f) = 8 * f := IntWalk.i64_in _ (by omega)
          have hw3 : IntKind.i64.wrap (8 * f + (k : Int)) = 8 * f + k := IntWalk.i64_in _ (by omega)
          have hw4 : IntKind.u8.wrap (2 ^ k) = 2 ^ k := by simp [IntKind.wrap, IntKind.bits, IntKind.signed]; omega
          clear hpl e0 hne
          go_wp2_with (go_at_call 41; refine (rused_any _ _ _ _ h2 h3 (by omega) (by omega)).mono ?_; rintro e w' ⟨rfl, rfl⟩)
          go_region
          all_goals go_wp2
          all_goals rw [F1.out, F2.out, F3.out, F4.out]
          all_goals exact bodyPost_ret (v := .tuple #[.agg #[.int .i64 f, .int .u8 (u + 2 ^ k)], .int .i64 (8 * f + k), .int .i64 0]) (by simp [results, Try.results22, go_sem, r0, r1, l1]) rfl ⟨rfl, (by repeat (first | exact Below.refl _ _ | assumption | apply Below.drew | apply b_drewN | apply b_alloc | (refine Below.setCell ?_ (by (try simp); (try omega)) _) | (refine b_then ?_ (by assumption))))⟩
      · obtain rfl : k = 8 := by omega
        have hu := all_full u h2 h3 hall.out
        have e0 : alE f u = 5 := by simp [alE, Hc.out, hu]
        have F1 : Hid (alF f u = 0) := Lib.hid (by simp [alF, e0])
        have F2 : Hid (alU f u = 0) := Lib.hid (by simp [alU, e0])
        have F3 : Hid (alO f u = 0) := Lib.hid (by simp [alO, e0])
        have F4 := Lib.hid e0
        clear hu e0
        go_wp2
        rw [F1.out, F2.out, F3.out, F4.out]
        exact bodyPost_ret (v := .tuple #[.agg #[.int .i64 0, .int .u8 0], .int .i64 0, .int .i64 5]) (by simp [results, Try.results22, go_sem, r0, r1]) rfl ⟨rfl, (by repeat (first | exact Below.refl _ _ | assumption | apply Below.drew | apply b_drewN | apply b_alloc | (refine Below.setCell ?_ (by (try simp); (try omega)) _) | (refine b_then ?_ (by assumption))))⟩
  · have E1 : (schk f != 0) = true := by simp [hc]
    have e0 : alE f u = schk f := by simp [alE, hc]
    have E5 : Hid (alF f u = 0) := Lib.hid (by simp [alF, e0, hc])
    have E6 : Hid (alU f u = 0) := Lib.hid (by simp [alU, e0, hc])
    have E7 : Hid (alO f u = 0) := Lib.hid (by simp [alO, e0, hc])
    have E4 := Lib.hid e0
    clear hc e0
    go_enter Try.func22, Try.ntmps22
    go_wp2_with (go_at_call 19; refine (rsCheck_any _ _ _).mono ?_; rintro e w' ⟨rfl, rfl⟩)
    rw [E4.out, E5.out, E6.out, E7.out]
    exact bodyPost_ret (v := .tuple #[.agg #[.int .i64 0, .int .u8 0], .int .i64 0, .int .i64 (schk f)]) (by simp [results, Try.results22, go_sem]) rfl ⟨rfl, (by repeat (first | exact Below.refl _ _ | assumption | apply Below.drew | apply b_drewN | apply b_alloc | (refine Below.setCell ?_ (by (try simp); (try omega)) _) | (refine b_then ?_ (by assumption))))⟩
end Go.Proofs.Ytimmmhfcfocjdaa
