/- The walk of OrderSizes. -/
import Derived.Test.YtdgeahemjcopkaaOrdL
import Derived.Test.YtdgeahemjcopkaaOrdOpen
namespace Go.Proofs.Ytdgeahemjcopkaa.orderSizes
open Go.RowKit

theorem walk (n : Int) (hn : (Lit.int .i64 n).wf = true) (o : Int) (_ : (Lit.int .i64 o).wf = true) (w : World) :
    Calls Try.prog 6 #[.int .i64 n, .int .i64 o] w fun e w' => e = .returned (.bool true) ∧ Below w.heap.size w w' := by
  have hb := (wf_bd hn).2
  go_enter Try.func6, Try.ntmps6
  go_wp2_with fail
  refine (Log_any _ _ hb).mono ?_
  rintro e w1 ⟨rfl, rfl⟩
  go_wp2_with fail
  refine (rLog_any _ _ hb).mono ?_
  rintro e w1 ⟨rfl, rfl⟩
  go_wp2_with fail
  refine (Least_any _ _ hb).mono ?_
  rintro e w1 ⟨rfl, rfl⟩
  go_wp2_with fail
  refine (rLeast_any _ _ hb).mono ?_
  rintro e w1 ⟨rfl, rfl⟩
  go_wp2_with fail
  refine (Size_any _ _).mono ?_
  rintro e w1 ⟨rfl, rfl⟩
  go_wp2_with fail
  refine (rSize_any _ _).mono ?_
  rintro e w1 ⟨rfl, rfl⟩
  go_wp2_with fail
  refine (awake_any _).mono ?_
  rintro e w1 ⟨rfl, hb1⟩
  go_wp2
  go_ret
  exact ⟨rfl, (by repeat (first | exact Below.refl _ _ | assumption | apply Below.drew | apply b_drewN | apply b_alloc | (refine Below.setCell ?_ (by (try simp); (try omega)) _) | (refine b_then ?_ (by assumption))))⟩
end Go.Proofs.Ytdgeahemjcopkaa.orderSizes
