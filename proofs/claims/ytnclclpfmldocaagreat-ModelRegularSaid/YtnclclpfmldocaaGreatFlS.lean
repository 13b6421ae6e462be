import Derived.Test.YtnclclpfmldocaaGreatFlR
import Derived.Deep.Quiet
import Derived.Deep.QuietTactic
import Derived.Deep.RegionHeld3
import Derived.LoopN
import Derived.Handy
import Derived.Shelf.SlSortCmp.KitK
import Derived.StillTailTactics

/- The order of keys: compare, by the kit's walk. -/
namespace Go.Proofs.YtnclclpfmldocaaGreat
open Go.RowKit Go.Sort Go.Shelf
set_option maxRecDepth 100000
set_option linter.unusedSimpArgs false
set_option linter.unusedVariables false

def encK (k : K3) : List Value := [.int .i64 k.1, .int .i64 k.2.1, .int .i64 k.2.2]
def cfK (a b : K3) : Int := cmK a.1 a.2.1 a.2.2 b.1 b.2.1 b.2.2
/-- one key stands before another -/
def BefK (a b : K3) : Prop := a.1 < b.1 ∨ (a.1 = b.1 ∧ (a.2.1 < b.2.1 ∨ (a.2.1 = b.2.1 ∧ a.2.2 < b.2.2)))
theorem cfK_lt (a b : K3) : cfK a b < 0 ↔ BefK a b := by
  obtain ⟨a1, a2, a3⟩ := a
  obtain ⟨b1, b2, b3⟩ := b
  have := cmK_bef (a1, a2, a3, 0) (b1, b2, b3, 0)
  unfold cfK BefK
  unfold Bef at this
  dsimp only at this ⊢
  omega
theorem isNaN_calls (a : Int) (W : World) : Calls Tryz.prog 115 #[.int .i64 a] W fun e w' => e = .returned (.bool false) ∧ w' = W := by
  go_enter Tryz.func115, Tryz.ntmps115
  go_wp2
  go_ret
  simp
theorem Compare_calls (a b : Int) (W : World) : Calls Tryz.prog 98 #[.int .i64 a, .int .i64 b] W fun e w' => e = .returned (.int .i64 (cm3 a b)) ∧ w' = W := by
  have n1 := fun W => isNaN_calls a W
  have n2 := fun W => isNaN_calls b W
  go_enter Tryz.func98, Tryz.ntmps98
  unfold cm3
  by_cases h1 : a < b
  · rw [if_pos h1]
    go_wp2_with (first | (refine (n1 _).mono ?_; rintro e w' ⟨rfl, rfl⟩) | (refine (n2 _).mono ?_; rintro e w' ⟨rfl, rfl⟩))
    go_ret
    simp
  · rw [if_neg h1]
    by_cases h2 : b < a
    · rw [if_pos h2]
      go_wp2_with (first | (refine (n1 _).mono ?_; rintro e w' ⟨rfl, rfl⟩) | (refine (n2 _).mono ?_; rintro e w' ⟨rfl, rfl⟩))
      go_ret
      simp
    · rw [if_neg h2]
      go_wp2_with (first | (refine (n1 _).mono ?_; rintro e w' ⟨rfl, rfl⟩) | (refine (n2 _).mono ?_; rintro e w' ⟨rfl, rfl⟩))
      go_ret
      simp
def or3 (a b c : Int) : Int := if a ≠ 0 then a else if b ≠ 0 then b else c
set_option maxHeartbeats 400000 in
theorem Or_calls (a b c : Int) (blk : Nat) (W : World) (h0 : W.cell? ⟨blk, 0, none⟩ = some (.int .i64 a)) (h1 : W.cell? ⟨blk, 1, none⟩ = some (.int .i64 b)) (h2 : W.cell? ⟨blk, 2, none⟩ = some (.int .i64 c)) :
    Calls Tryz.prog 97 #[.slice (some ⟨blk, 0, none⟩) 3 3] W fun e w' => e = .returned (.int .i64 (or3 a b c)) ∧ w' = W := by
  obtain ⟨R, hR⟩ : ∃ R, or3 a b c = R := ⟨_, rfl⟩
  rw [hR]
  go_enter Tryz.func97, Tryz.ntmps97
  go_wp2
  go_loopw [8] (fun i wr => ∃ k : Nat, k ≤ 3 ∧ i = .int .i64 k ∧ wr = W ∧ (0 < k → a = 0) ∧ (1 < k → b = 0) ∧ (2 < k → c = 0)) (fun i _ => 3 - (intOf i).toNat)
  case atStart => exact ⟨0, by omega, rfl, rfl, by omega, by omega, by omega⟩
  case round =>
    obtain ⟨k, hk, rfl, rfl, k0, k1, k2⟩ := hrel
    have hk4 : k = 0 ∨ k = 1 ∨ k = 2 ∨ k = 3 := by omega
    rcases hk4 with rfl | rfl | rfl | rfl
    · clear k0 k1 k2 hk
      by_cases ha : a = 0
      · subst ha
        go_wp2
        go_roundw
        case rel => exact ⟨1, by simp⟩
        case measure => simp [intOf]
      · obtain rfl : a = R := by rw [← hR]; simp [or3, ha]
        go_wp2
        go_ret
        simp
    · have := k0 (by omega)
      subst this
      clear k0 k1 k2 hk
      by_cases ha : b = 0
      · subst ha
        go_wp2
        go_roundw
        case rel => exact ⟨2, by simp⟩
        case measure => simp [intOf]
      · obtain rfl : b = R := by rw [← hR]; simp [or3, ha]
        go_wp2
        go_ret
        simp
    · have h1 := k0 (by omega)
      have h2 := k1 (by omega)
      subst h1 h2
      clear k0 k1 k2 hk
      by_cases ha : c = 0
      · subst ha
        go_wp2
        go_roundw
        case rel => exact ⟨3, by simp⟩
        case measure => simp [intOf]
      · obtain rfl : c = R := by rw [← hR]; simp [or3]
        go_wp2
        go_ret
        simp
    · have h1 := k0 (by omega)
      have h2 := k1 (by omega)
      have h3 := k2 (by omega)
      subst h1 h2 h3
      clear k0 k1 k2 hk
      obtain rfl : 0 = R := by rw [← hR]; simp [or3]
      go_wp2
      go_ret
      simp
end Go.Proofs.YtnclclpfmldocaaGreat

/- The order of keys: compare (2), by the kit's walk. -/
namespace Go.Proofs.YtnclclpfmldocaaGreat
open Go.RowKit Go.Sort Go.Shelf
set_option maxRecDepth 100000
set_option linter.unusedSimpArgs false
set_option linter.unusedVariables false

set_option maxHeartbeats 4000000 in
theorem compare_calls (a b : K3) (W : World) : Calls Tryz.prog 72 #[.agg (encK a).toArray, .agg (encK b).toArray] W fun e w' => e = .returned (.int .i64 (cfK a b)) ∧ ∃ q os, w' = grow (W.drewN q) os := by
  obtain ⟨a1, a2, a3⟩ := a
  obtain ⟨b1, b2, b3⟩ := b
  simp only [encK, cfK]
  have c1 := fun W => Compare_calls a1 b1 W
  have c2 := fun W => Compare_calls a2 b2 W
  have c3 := fun W => Compare_calls a3 b3 W
  go_enter Tryz.func72, Tryz.ntmps72
  go_wp2
  generalize hW2 : (W.alloc (.cells #[.int .i64 a1, .int .i64 a2, .int .i64 a3] 113)).alloc (.cells #[.int .i64 b1, .int .i64 b2, .int .i64 b3] 113) = W2
  refine wp_region_still_tail 19 (by kernel_rfl) (by kernel_rfl) ?_
  simp only [List.take_succ_cons, List.take_zero, List.drop_succ_cons, List.drop_zero]
  change wpStill _ _ W2.drew _ _ _
  have g1 : W2.drew.cell? ⟨W.heap.size, 0, none⟩ = some (.int .i64 a1) := by subst hW2; simp [go_sem]
  have g2 : W2.drew.cell? ⟨W.heap.size, 1, none⟩ = some (.int .i64 a2) := by subst hW2; simp [go_sem]
  have g3 : W2.drew.cell? ⟨W.heap.size, 2, none⟩ = some (.int .i64 a3) := by subst hW2; simp [go_sem]
  have k1 : W2.drew.cell? ⟨W.heap.size + 1, 0, none⟩ = some (.int .i64 b1) := by subst hW2; simp [go_sem]
  have k2 : W2.drew.cell? ⟨W.heap.size + 1, 1, none⟩ = some (.int .i64 b2) := by subst hW2; simp [go_sem]
  have k3 : W2.drew.cell? ⟨W.heap.size + 1, 2, none⟩ = some (.int .i64 b3) := by subst hW2; simp [go_sem]
  have hgr : ∃ q os, W2.drew = grow (W.drewN q) os := ⟨1, #[.cells #[.int .i64 a1, .int .i64 a2, .int .i64 a3] 113, .cells #[.int .i64 b1, .int .i64 b2, .int .i64 b3] 113], by
    rw [← hW2, alloc_eq_grow, alloc_eq_grow, grow_grow]; rfl⟩
  iterate 6 still_step
  still_call (c1 _)
  iterate 6 still_step
  still_call (c2 _)
  iterate 4 still_step
  still_call (c3 _)
  refine wpStill_nil ?_
  change wpList _ _ _ _ _ W2.drew
  clear g1 g2 g3 k1 k2 k3 hW2
  generalize W2.drew = W3 at *
  have hor := Or_calls (cm3 a1 b1) (cm3 a2 b2) (cm3 a3 b3) W3.heap.size (W3.alloc (.cells #[.int .i64 (cm3 a1 b1), .int .i64 (cm3 a2 b2), .int .i64 (cm3 a3 b3)] 3)) (by simp [go_sem]) (by simp [go_sem]) (by simp [go_sem])
  go_wp2_with (refine hor.mono ?_; rintro e w' ⟨rfl, rfl⟩)
  go_ret
  obtain ⟨q, os, rfl⟩ := hgr
  exact ⟨rfl, q, os ++ #[.cells #[.int .i64 (cm3 a1 b1), .int .i64 (cm3 a2 b2), .int .i64 (cm3 a3 b3)] 3], by rw [alloc_eq_grow, grow_grow]⟩
end Go.Proofs.YtnclclpfmldocaaGreat
