/- The walk of SlabSplits. -/
import Derived.Test.YtimmmhfcfocjdaaSlabB
namespace Go.Proofs.Ytimmmhfcfocjdaa.slabSplits
open Go.RowKit

theorem rSplit_ok (o : Int) (w : World) (h0 : 0 ≤ o) (h1 : o < 2048) :
    Calls Try.prog 11 #[.int .i64 o] w fun e w' => e = .returned (.tuple #[.int .i64 (o / 8), .int .i64 (o % 8), .int .i64 0]) ∧ w = w' := by
  have d1 : decide (o < 0) = false := by simp; omega
  go_enter Try.func11, Try.ntmps11
  go_wp2
  go_ret3
  exact ⟨rfl, rfl⟩

theorem rSplit_no (o : Int) (w : World) (h : o < 0 ∨ 2048 ≤ o) :
    Calls Try.prog 11 #[.int .i64 o] w fun e w' => e = .returned (.tuple #[.int .i64 0, .int .i64 0, .int .i64 2]) ∧ w = w' := by
  by_cases h1 : o < 0
  · go_enter Try.func11, Try.ntmps11
    go_wp2
    go_ret3
    exact ⟨rfl, rfl⟩
  · have d1 : decide (o < 0) = false := by simp; omega
    have h2 : 2048 ≤ o := by omega
    go_enter Try.func11, Try.ntmps11
    go_wp2
    go_ret3
    exact ⟨rfl, rfl⟩

theorem walk (o : Int) (_ : (Lit.int .i64 o).wf = true) (w : World) :
    Calls Try.prog 3 #[.int .i64 o] w fun e w' => e = .returned (.bool true) ∧ Below w.heap.size w w' := by
  by_cases h : o < 0 ∨ 2048 ≤ o
  · go_enter Try.func3, Try.ntmps3
    go_wp2_with fail
    refine (Split_no _ _ h).mono ?_
    rintro e w1 ⟨rfl, rfl⟩
    go_wp2_with fail
    refine (rSplit_no _ _ h).mono ?_
    rintro e w1 ⟨rfl, rfl⟩
    go_wp2_with fail
    refine (awake_any _).mono ?_
    rintro e w1 ⟨rfl, hb1⟩
    go_wp2
    go_ret
    exact ⟨rfl, (by repeat (first | exact Below.refl _ _ | assumption | apply Below.drew | apply b_drewN | apply b_alloc | (refine Below.setCell ?_ (by (try simp); (try omega)) _) | (refine b_then ?_ (by assumption))))⟩
  · go_enter Try.func3, Try.ntmps3
    go_wp2_with fail
    refine (Split_ok _ _ (by omega) (by omega)).mono ?_
    rintro e w1 ⟨rfl, rfl⟩
    go_wp2_with fail
    refine (rSplit_ok _ _ (by omega) (by omega)).mono ?_
    rintro e w1 ⟨rfl, rfl⟩
    go_wp2_with fail
    refine (awake_any _).mono ?_
    rintro e w1 ⟨rfl, hb1⟩
    go_wp2
    go_ret
    exact ⟨rfl, (by repeat (first | exact Below.refl _ _ | assumption | apply Below.drew | apply b_drewN | apply b_alloc | (refine Below.setCell ?_ (by (try simp); (try omega)) _) | (refine b_then ?_ (by assumption))))⟩
end Go.Proofs.Ytimmmhfcfocjdaa.slabSplits
