/- The walk of SlabFills. -/
import Derived.Test.YtimmmhfcfocjdaaSlabB
import Derived.Test.YtimmmhfcfocjdaaKitA
namespace Go.Proofs.Ytimmmhfcfocjdaa.slabFills
open Go.RowKit

theorem plc_k (k : Nat) (h : k < 8) : plc (2 ^ k - 1) = k ∧ (2 : Int) ^ k - 1 + 2 ^ (plc (2 ^ k - 1)).toNat = 2 ^ (k + 1) - 1 ∧ (2 : Int) ^ k - 1 < 255 ∧ 0 ≤ (2 : Int) ^ k - 1 := by
  have : ∀ k : Fin 8, plc (2 ^ k.1 - 1) = (k.1 : Int) ∧ (2 : Int) ^ k.1 - 1 + 2 ^ (plc (2 ^ k.1 - 1)).toNat = 2 ^ (k.1 + 1) - 1 ∧ (2 : Int) ^ k.1 - 1 < 255 ∧ 0 ≤ (2 : Int) ^ k.1 - 1 := by decide +kernel
  exact this ⟨k, h⟩

theorem walk (n : Int) (_ : (Lit.int .i64 n).wf = true) (w : World) :
    Calls Try.prog 4 #[.int .i64 n] w fun e w' => e = .returned (.bool true) ∧ Below w.heap.size w w' := by
  have f0 := Int.emod_nonneg n (show (256 : Int) ≠ 0 by omega)
  have f1 := Int.emod_lt_of_pos n (show (0 : Int) < 256 by omega)
  go_enter Try.func4, Try.ntmps4
  go_wp2_with fail
  refine (Mod_any n 256 _ (by omega) (by omega)).mono ?_
  rintro e w1 ⟨rfl, rfl⟩
  generalize n % 256 = f at *
  go_wp2_with fail
  go_loopw [4] (fun i wr => ∃ k : Nat, k ≤ 8 ∧ i = .int .i64 k ∧ Blk wr w.heap.size 29 #[.int .i64 f, .int .u8 (2 ^ k - 1)] ∧ Below w.heap.size w wr) (fun i _ => 8 - (intOf i).toNat)
  case atStart => exact ⟨0, by omega, rfl, Blk.new _ _ _, (by repeat (first | exact Below.refl _ _ | assumption | apply Below.drew | apply b_drewN | apply b_alloc | (refine Below.setCell ?_ (by (try simp); (try omega)) _) | (refine b_then ?_ (by assumption))))⟩
  case round =>
    obtain ⟨k, hk, rfl, hblk, hbel⟩ := hrel
    have c0 : wr.cell? ⟨w.heap.size, 0, none⟩ = some (.int .i64 f) := hblk.cell 0
    have c1 : wr.cell? ⟨w.heap.size, 1, none⟩ = some (.int .u8 (2 ^ k - 1)) := hblk.cell 1
    by_cases hlt : k < 8
    · obtain ⟨e1, e2, e3, e4⟩ := plc_k k hlt
      have E1 := Lib.hid e1; have E2 := Lib.hid e2
      clear e1 e2
      go_wp2_with fail
      refine (Alloc_ok f _ _ f0 f1 e4 e3).mono ?_
      rintro e w1 ⟨rfl, hb1⟩
      rw [E2.out, E1.out]
      have hblk1 := hblk.call hb1
      clear c0 c1
      have c0 : w1.cell? ⟨w.heap.size, 0, none⟩ = some (.int .i64 f) := hblk1.cell 0
      have c1 : w1.cell? ⟨w.heap.size, 1, none⟩ = some (.int .u8 (2 ^ k - 1)) := hblk1.cell 1
      have q0 := hblk1.frozen 0
      have q1 := hblk1.frozen 1
      have l0 := hblk1.lt
      have hd : (f * 8 + (k : Int)) / 8 = f := by omega
      have hm : (f * 8 + (k : Int)) % 8 = k := by omega
      go_wp2_with fail
      refine (Split_ok _ _ (by omega) (by omega)).mono ?_
      rintro e w2 ⟨rfl, rfl⟩
      rw [hd, hm]
      clear hd hm
      go_wp2
      go_roundw
      case rel => exact ⟨k + 1, by omega, by go_num, ((hblk1.set_ 0 _).set_ 1 _).alloc _, (by repeat (first | exact Below.refl _ _ | assumption | apply Below.drew | apply b_drewN | apply b_alloc | (refine Below.setCell ?_ (by (try simp); (try omega)) _) | (refine b_then ?_ (by assumption))))⟩
      case measure => simp [intOf]; omega
    · obtain rfl : k = 8 := by omega
      go_wp2_with fail
      refine (state_true _ _ _ _ f0 f1 (by decide)).mono ?_
      rintro e w1 ⟨rfl, hb1⟩
      go_wp2_with fail
      refine (awake_any _).mono ?_
      rintro e w2 ⟨rfl, hb2⟩
      go_wp2
      go_ret
      exact ⟨rfl, (by repeat (first | exact Below.refl _ _ | assumption | apply Below.drew | apply b_drewN | apply b_alloc | (refine Below.setCell ?_ (by (try simp); (try omega)) _) | (refine b_then ?_ (by assumption))))⟩
end Go.Proofs.Ytimmmhfcfocjdaa.slabFills
