/- Contracts: State, Count, the law's helpers s, state, awake. -/
import Derived.Test.YtimmmhfcfocjdaaSlabA
set_option linter.unusedSimpArgs false
set_option linter.unusedVariables false
namespace Go.Proofs.Ytimmmhfcfocjdaa
open Go.RowKit

theorem s_any (u : Int) (w : World) :
    Calls Try.prog 36 #[.int .u8 u] w fun e w' => e = .returned (.agg #[.int .i64 5, .int .u8 u]) ∧ w.alloc (.cells #[.int .i64 5, .int .u8 u] 29) = w' := by
  go_enter Try.func36, Try.ntmps36
  go_wp2
  exact bodyPost_ret (v := .agg #[.int .i64 5, .int .u8 u]) (by simp [results, Try.results36, go_sem]) rfl ⟨rfl, rfl⟩

/-- what State answers -/
def stA (f u : Int) : Int := if schk f = 0 then sst u else 0
theorem State_any (f u : Int) (w : World) :
    Calls Try.prog 16 #[.agg #[.int .i64 f, .int .u8 u]] w fun e w' => e = .returned (.tuple #[.int .i64 (stA f u), .int .i64 (schk f)]) ∧ Below w.heap.size w w' := by
  by_cases hc : schk f = 0
  · have E1 : (schk f != 0) = false := by simp [hc]
    have E2 : Hid (stA f u = sst u) := Lib.hid (by simp [stA, hc])
    have E3 := Lib.hid hc
    clear hc
    go_enter Try.func16, Try.ntmps16
    go_wp2_with (first
      | (go_at_call 18; refine (sCheck_any _ _ _).mono ?_; rintro e w' ⟨rfl, rfl⟩)
      | (go_at_call 37; refine (stateOf_any _ _ _).mono ?_; rintro e w' ⟨rfl, rfl⟩))
    go_ret2
    exact ⟨by rw [E2.out, E3.out]; rfl, (by repeat (first | exact Below.refl _ _ | assumption | apply Below.drew | apply b_drewN | apply b_alloc | (refine Below.setCell ?_ (by (try simp); (try omega)) _) | (refine b_then ?_ (by assumption))))⟩
  · have E1 : (schk f != 0) = true := by simp [hc]
    have E2 : Hid (stA f u = 0) := Lib.hid (by simp [stA, hc])
    clear hc
    go_enter Try.func16, Try.ntmps16
    go_wp2_with (go_at_call 18; refine (sCheck_any _ _ _).mono ?_; rintro e w' ⟨rfl, rfl⟩)
    go_ret2
    exact ⟨by rw [E2.out]; rfl, (by repeat (first | exact Below.refl _ _ | assumption | apply Below.drew | apply b_drewN | apply b_alloc | (refine Below.setCell ?_ (by (try simp); (try omega)) _) | (refine b_then ?_ (by assumption))))⟩

theorem state_true (f u n : Int) (w : World) (h0 : 0 ≤ f) (h1 : f < 256) (h : sst u = n) :
    Calls Try.prog 15 #[.agg #[.int .i64 f, .int .u8 u], .int .i64 n] w fun e w' => e = .returned (.bool true) ∧ Below w.heap.size w w' := by
  subst h
  have e0 := schk_ok h0 h1
  have E : Hid (stA f u = sst u ∧ schk f = 0) := Lib.hid ⟨by simp [stA, e0], e0⟩
  clear e0
  go_enter Try.func15, Try.ntmps15
  go_wp2_with fail
  refine (State_any _ _ _).mono ?_
  rintro e w1 ⟨rfl, hb1⟩
  rw [E.out.1, E.out.2]
  go_wp2
  go_ret
  exact ⟨rfl, (by repeat (first | exact Below.refl _ _ | assumption | apply Below.drew | apply b_drewN | apply b_alloc | (refine Below.setCell ?_ (by (try simp); (try omega)) _) | (refine b_then ?_ (by assumption))))⟩

theorem awake_any (w : World) : Calls Try.prog 12 #[] w fun e w' => e = .returned (.bool true) ∧ Below w.heap.size w w' := by
  go_enter Try.func12, Try.ntmps12
  go_wp2_with fail
  refine (s_any _ _).mono ?_
  rintro e w' ⟨rfl, rfl⟩
  go_wp2_with fail
  refine (Alloc_any 5 5 _ (by omega) (by omega)).mono ?_
  rintro e w1 ⟨rfl, hb1⟩
  rw [show alF 5 5 = 5 by decide +kernel, show alU 5 5 = 7 by decide +kernel, show alO 5 5 = 41 by decide +kernel, show alE 5 5 = 0 by decide +kernel]
  go_wp2_with fail
  have X := Blk.new w1 29 #[.int .i64 5, .int .u8 7]
  refine (s_any _ _).mono ?_
  rintro e w' ⟨rfl, rfl⟩
  replace X := X.alloc (.cells #[.int .i64 5, .int .u8 5] 29)
  go_wp2_with fail
  refine (Free_any 5 5 42 _ (by omega) (by omega)).mono ?_
  rintro e w2 ⟨rfl, hb2⟩
  replace X := X.call hb2
  rw [show frF 5 5 42 = 5 by decide +kernel, show frU 5 5 42 = 1 by decide +kernel, show frE 5 5 42 = 0 by decide +kernel]
  go_wp2_with fail
  replace X := X.alloc (.cells #[.int .i64 5, .int .u8 1] 29)
  have Y := Blk.new w2 29 #[.int .i64 5, .int .u8 1]
  generalize hW : w2.alloc (.cells #[.int .i64 5, .int .u8 1] 29) = W at *
  have HW : Below w.heap.size w W := by subst hW; exact (by repeat (first | exact Below.refl _ _ | assumption | apply Below.drew | apply b_drewN | apply b_alloc | (refine Below.setCell ?_ (by (try simp); (try omega)) _) | (refine b_then ?_ (by assumption))))
  clear hW hb1 hb2
  generalize w1.heap.size = g1 at *
  generalize w2.heap.size = g2 at *
  have HS : Hid (∀ V, Below W.heap.size W V → (V.cell? ⟨g1, 0, none⟩ = some (.int .i64 5) ∧ V.cell? ⟨g1, 1, none⟩ = some (.int .u8 7)) ∧ (V.cell? ⟨g2, 0, none⟩ = some (.int .i64 5) ∧ V.cell? ⟨g2, 1, none⟩ = some (.int .u8 1))) :=
    Lib.hid fun V h => ⟨⟨(X.call h).cell 0, (X.call h).cell 1⟩, ⟨(Y.call h).cell 0, (Y.call h).cell 1⟩⟩
  go_region_held3 (fun V => (V.cell? ⟨g1, 0, none⟩ = some (.int .i64 5) ∧ V.cell? ⟨g1, 1, none⟩ = some (.int .u8 7)) ∧ (V.cell? ⟨g2, 0, none⟩ = some (.int .i64 5) ∧ V.cell? ⟨g2, 1, none⟩ = some (.int .u8 1))) (exact HS.out _ (by repeat (first | exact Below.refl _ _ | assumption | apply Below.drew | apply b_drewN | apply b_alloc | (refine Below.setCell ?_ (by (try simp); (try omega)) _) | (refine b_then ?_ (by assumption)))))
    (first | (go_at_call 36; refine (s_any _ _).mono ?_; rintro e w' ⟨rfl, rfl⟩) | (go_at_call 15; refine (state_true _ _ _ _ (by omega) (by omega) rfl).mono ?_; rintro e w9 ⟨rfl, hb9⟩))
  go_wp2
  go_ret
  exact ⟨rfl, (by repeat (first | exact Below.refl _ _ | assumption | apply Below.drew | apply b_drewN | apply b_alloc | (refine Below.setCell ?_ (by (try simp); (try omega)) _) | (refine b_then ?_ (by assumption))))⟩
end Go.Proofs.Ytimmmhfcfocjdaa
