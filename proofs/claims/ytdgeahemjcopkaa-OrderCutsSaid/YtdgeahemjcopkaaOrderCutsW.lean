/- The walk of OrderCuts. -/
import Derived.Test.YtdgeahemjcopkaaOrdD
namespace Go.Proofs.Ytdgeahemjcopkaa.orderCuts
open Go.RowKit

theorem cut_len_aux : ∀ (n : Nat) (a t : Int), 0 ≤ a → ((cutL n a t).length : Int) ≤ n
  | 0, _, _, _ => by simp [cutL]
  | n + 1, a, t, h => by
    unfold cutL
    have hp := pow_nat (kOf a t)
    split
    · have := cut_len_aux n (a + 2 ^ kOf a t) t (by omega)
      simp only [List.length_cons]; omega
    · simp; omega
theorem cut_len (a t : Int) (h : 0 ≤ a) (ht : t ≤ 256) : (cut a t).length ≤ 256 := by
  have := cut_len_aux (t - a).toNat a t h
  unfold cut; omega

theorem walk (f : Int) (_ : (Lit.int .i64 f).wf = true) (t : Int) (_ : (Lit.int .i64 t).wf = true) (w : World) :
    Calls Try.prog 3 #[.int .i64 f, .int .i64 t] w fun e w' => e = .returned (.bool true) ∧ Below w.heap.size w w' := by
  by_cases h : 0 ≤ f ∧ f ≤ t ∧ t ≤ 256
  · obtain ⟨h0, h1, h2⟩ := h
    have hl := cut_len f t h0 h2
    go_enter Try.func3, Try.ntmps3
    go_wp2_with fail
    refine (Cut_ok f t _ h0 h1 h2).mono ?_
    rintro e w1 ⟨v1, rfl, hv1, hb1⟩
    go_wp2_with fail
    refine (rCut_ok f t _ h0 h1 h2).mono ?_
    rintro e w2 ⟨v2, rfl, hv2, hb2⟩
    go_wp2_with fail
    refine (same_true _ _ _ _ (hv1.keep hb2) hv2 (by omega)).mono ?_
    rintro e w3 ⟨rfl, n, rfl⟩
    go_wp2_with fail
    refine (awake_any _).mono ?_
    rintro e w4 ⟨rfl, hb4⟩
    go_wp2
    go_ret
    exact ⟨rfl, (by repeat (first | exact Below.refl _ _ | assumption | apply Below.drew | apply b_drewN | apply b_alloc | (refine Below.setCell ?_ (by (try simp); (try omega)) _) | (refine b_then ?_ (by assumption))))⟩
  · have h' : f < 0 ∨ t < f ∨ 256 < t := by omega
    go_enter Try.func3, Try.ntmps3
    go_wp2_with fail
    refine (Cut_no f t _ h').mono ?_
    rintro e w1 ⟨rfl, rfl⟩
    go_wp2_with fail
    refine (rCut_no f t _ h').mono ?_
    rintro e w2 ⟨rfl, rfl⟩
    go_wp2_with fail
    refine (same_true _ _ [] _ Rd.nil Rd.nil (by simp)).mono ?_
    rintro e w3 ⟨rfl, n, rfl⟩
    go_wp2_with fail
    refine (awake_any _).mono ?_
    rintro e w4 ⟨rfl, hb4⟩
    go_wp2
    go_ret
    exact ⟨rfl, (by repeat (first | exact Below.refl _ _ | assumption | apply Below.drew | apply b_drewN | apply b_alloc | (refine Below.setCell ?_ (by (try simp); (try omega)) _) | (refine b_then ?_ (by assumption))))⟩
end Go.Proofs.Ytdgeahemjcopkaa.orderCuts
