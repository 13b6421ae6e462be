/- The walk of SlabSteps. -/
import Derived.Test.YtimmmhfcfocjdaaSlabOpen
namespace Go.Proofs.Ytimmmhfcfocjdaa.slabSteps
open Go.RowKit

set_option maxRecDepth 100000 in
set_option maxHeartbeats 1000000 in
theorem walk (v : Value) (x : Int × Int) (hx : v = .agg #[.int .i64 x.1, .int .u8 x.2] ∧ 0 ≤ x.2 ∧ x.2 ≤ 255) (o : Int) (_ : (Lit.int .i64 o).wf = true) (w : World) :
    Calls Try.prog 5 #[v, .int .i64 o] w fun e w' => e = .returned (.bool true) ∧ Below w.heap.size w w' := by
  obtain ⟨rfl, h0, h1⟩ := hx
  obtain ⟨f, u⟩ := x
  simp only at h0 h1 ⊢
  have hol := objsA_len f u
  go_enter Try.func5, Try.ntmps5
  go_wp2_with fail
  have S := Blk.new w 29 #[.int .i64 f, .int .u8 u]
  refine (State_any f u _).mono ?_
  rintro e w1 ⟨rfl, hb1⟩
  replace S := S.call hb1
  have cS0 := S.cell 0; have cS1 := S.cell 1; have lS := S.lt
  simp only [List.getElem?_toArray, List.getElem?_cons_zero, List.getElem?_cons_succ] at cS0 cS1
  go_wp2_with fail
  refine (rState_any f u _ h0 h1).mono ?_
  rintro e w2 ⟨rfl, hb2⟩
  replace S := S.call hb2
  clear cS0 cS1 lS
  go_wp2_with fail
  have HS : Hid (∀ V, Below w2.heap.size w2 V → V.cell? ⟨w.heap.size, 0, none⟩ = some (.int .i64 f) ∧ V.cell? ⟨w.heap.size, 1, none⟩ = some (.int .u8 u)) :=
    Lib.hid fun V h => ⟨(S.call h).cell 0, (S.call h).cell 1⟩
  go_region_held3 (fun V => V.cell? ⟨w.heap.size, 0, none⟩ = some (.int .i64 f) ∧ V.cell? ⟨w.heap.size, 1, none⟩ = some (.int .u8 u)) (exact HS.out _ (by repeat (first | exact Below.refl _ _ | assumption | apply Below.drew | apply b_drewN | apply b_alloc | (refine Below.setCell ?_ (by (try simp); (try omega)) _) | (refine b_then ?_ (by assumption)))))
    (first | (go_at_call 18; refine (sCheck_any _ _ _).mono ?_; rintro e w' ⟨rfl, rfl⟩) | (go_at_call 19; refine (rsCheck_any _ _ _).mono ?_; rintro e w' ⟨rfl, rfl⟩))
  obtain ⟨w3, hw3⟩ : ∃ w3, w3 = ((w2.alloc (.cells #[.int .i64 f, .int .u8 u] 29)).alloc (.cells #[.int .i64 f, .int .u8 u] 29)).drew := ⟨_, rfl⟩
  have hb3 : Below w2.heap.size w2 w3 := by rw [hw3]; exact (by repeat (first | exact Below.refl _ _ | assumption | apply Below.drew | apply b_drewN | apply b_alloc | (refine Below.setCell ?_ (by (try simp); (try omega)) _) | (refine b_then ?_ (by assumption))))
  rw [← hw3]
  clear hw3
  replace S := S.call hb3
  have cS0 := S.cell 0; have cS1 := S.cell 1; have lS := S.lt
  simp only [List.getElem?_toArray, List.getElem?_cons_zero, List.getElem?_cons_succ] at cS0 cS1
  go_wp2_with fail
  refine (Count_any f u _ h0 h1).mono ?_
  rintro e w4 ⟨rfl, hb4⟩
  replace S := S.call hb4
  clear cS0 cS1 lS
  have cS0 := S.cell 0; have cS1 := S.cell 1; have lS := S.lt
  simp only [List.getElem?_toArray, List.getElem?_cons_zero, List.getElem?_cons_succ] at cS0 cS1
  go_wp2_with fail
  refine (rCount_any f u _ h0 h1).mono ?_
  rintro e w5 ⟨rfl, hb5⟩
  replace S := S.call hb5
  clear cS0 cS1 lS
  have cS0 := S.cell 0; have cS1 := S.cell 1; have lS := S.lt
  simp only [List.getElem?_toArray, List.getElem?_cons_zero, List.getElem?_cons_succ] at cS0 cS1
  go_wp2_with fail
  refine (Alloc_any f u _ h0 h1).mono ?_
  rintro e w6 ⟨rfl, hb6⟩
  replace S := S.call hb6
  clear cS0 cS1 lS
  have cS0 := S.cell 0; have cS1 := S.cell 1; have lS := S.lt
  simp only [List.getElem?_toArray, List.getElem?_cons_zero, List.getElem?_cons_succ] at cS0 cS1
  go_wp2_with fail
  replace S := S.alloc (.cells #[.int .i64 (alF f u), .int .u8 (alU f u)] 29)
  have A := Blk.new w6 29 #[.int .i64 (alF f u), .int .u8 (alU f u)]
  refine (rAlloc_any f u _ h0 h1).mono ?_
  rintro e w7 ⟨rfl, hb7⟩
  replace S := S.call hb7; replace A := A.call hb7
  clear cS0 cS1 lS
  have cS0 := S.cell 0; have cS1 := S.cell 1; have lS := S.lt
  have cA0 := A.cell 0; have cA1 := A.cell 1; have lA := A.lt
  simp only [List.getElem?_toArray, List.getElem?_cons_zero, List.getElem?_cons_succ] at cS0 cS1 cA0 cA1
  go_wp2_with fail
  replace S := S.alloc (.cells #[.int .i64 (alF f u), .int .u8 (alU f u)] 29)
  replace A := A.alloc (.cells #[.int .i64 (alF f u), .int .u8 (alU f u)] 29)
  have B := Blk.new w7 29 #[.int .i64 (alF f u), .int .u8 (alU f u)]
  refine (Free_any f u o _ h0 h1).mono ?_
  rintro e w8 ⟨rfl, hb8⟩
  replace S := S.call hb8; replace A := A.call hb8; replace B := B.call hb8
  clear cS0 cS1 lS cA0 cA1 lA
  have cS0 := S.cell 0; have cS1 := S.cell 1; have lS := S.lt
  have cA0 := A.cell 0; have cA1 := A.cell 1; have lA := A.lt
  have cB0 := B.cell 0; have cB1 := B.cell 1; have lB := B.lt
  simp only [List.getElem?_toArray, List.getElem?_cons_zero, List.getElem?_cons_succ] at cS0 cS1 cA0 cA1 cB0 cB1
  have fA0 := A.frozen 0; have fA1 := A.frozen 1
  have hz6 : w.heap.size < w6.heap.size := by have := hb1.size; have := hb2.size; have := hb3.size; have := hb4.size; have := hb5.size; have := hb6.size; simp at *; omega
  have hz7 : w6.heap.size < w7.heap.size := by have := hb7.size; simp at *; omega
  go_wp2_with fail
  replace S := (S.far (p := ⟨w6.heap.size, 0, none⟩) (by simp; omega) (.int .i64 (frF f u o))).far (p := ⟨w6.heap.size, 1, none⟩) (by simp; omega) (.int .u8 (frU f u o))
  replace B := (B.far (p := ⟨w6.heap.size, 0, none⟩) (by simp; omega) (.int .i64 (frF f u o))).far (p := ⟨w6.heap.size, 1, none⟩) (by simp; omega) (.int .u8 (frU f u o))
  replace A : Blk _ w6.heap.size 29 #[.int .i64 (frF f u o), .int .u8 (frU f u o)] := (A.set_ 0 (.int .i64 (frF f u o))).set_ 1 (.int .u8 (frU f u o))
  refine (rFree_any f u o _ h0 h1).mono ?_
  rintro e w9 ⟨rfl, hb9⟩
  replace S := S.call hb9; replace A := A.call hb9; replace B := B.call hb9
  clear cS0 cS1 lS cA0 cA1 lA cB0 cB1 lB
  clear fA0 fA1
  have cS0 := S.cell 0; have cS1 := S.cell 1; have lS := S.lt
  have cA0 := A.cell 0; have cA1 := A.cell 1; have lA := A.lt
  have cB0 := B.cell 0; have cB1 := B.cell 1; have lB := B.lt
  simp only [List.getElem?_toArray, List.getElem?_cons_zero, List.getElem?_cons_succ] at cS0 cS1 cA0 cA1 cB0 cB1
  have fB0 := B.frozen 0; have fB1 := B.frozen 1
  go_wp2_with fail
  replace S := (S.far (p := ⟨w7.heap.size, 0, none⟩) (by simp; omega) (.int .i64 (frF f u o))).far (p := ⟨w7.heap.size, 1, none⟩) (by simp; omega) (.int .u8 (frU f u o))
  replace A := (A.far (p := ⟨w7.heap.size, 0, none⟩) (by simp; omega) (.int .i64 (frF f u o))).far (p := ⟨w7.heap.size, 1, none⟩) (by simp; omega) (.int .u8 (frU f u o))
  replace B : Blk _ w7.heap.size 29 #[.int .i64 (frF f u o), .int .u8 (frU f u o)] := (B.set_ 0 (.int .i64 (frF f u o))).set_ 1 (.int .u8 (frU f u o))
  refine (Objects_any f u _ h0 h1).mono ?_
  rintro e w10 ⟨v1, rfl, hv1, hb10⟩
  replace S := S.call hb10; replace A := A.call hb10; replace B := B.call hb10
  clear cS0 cS1 lS cA0 cA1 lA cB0 cB1 lB
  clear fB0 fB1
  have cS0 := S.cell 0; have cS1 := S.cell 1; have lS := S.lt
  have cA0 := A.cell 0; have cA1 := A.cell 1; have lA := A.lt
  have cB0 := B.cell 0; have cB1 := B.cell 1; have lB := B.lt
  simp only [List.getElem?_toArray, List.getElem?_cons_zero, List.getElem?_cons_succ] at cS0 cS1 cA0 cA1 cB0 cB1
  go_wp2_with fail
  refine (rObjects_any f u _ h0 h1).mono ?_
  rintro e w11 ⟨v2, rfl, hv2, hb11⟩
  replace S := S.call hb11; replace A := A.call hb11; replace B := B.call hb11
  clear cS0 cS1 lS cA0 cA1 lA cB0 cB1 lB
  have cS0 := S.cell 0; have cS1 := S.cell 1; have lS := S.lt
  have cA0 := A.cell 0; have cA1 := A.cell 1; have lA := A.lt
  have cB0 := B.cell 0; have cB1 := B.cell 1; have lB := B.lt
  simp only [List.getElem?_toArray, List.getElem?_cons_zero, List.getElem?_cons_succ] at cS0 cS1 cA0 cA1 cB0 cB1
  go_wp2_with fail
  refine (SameInts_true _ _ _ _ (hv1.keep hb11) hv2 (by omega)).mono ?_
  rintro e w12 ⟨rfl, nn, rfl⟩
  go_wp2_with fail
  refine (awake_any _).mono ?_
  rintro e w13 ⟨rfl, hb13⟩
  go_wp2
  go_ret
  exact ⟨rfl, (by repeat (first | exact Below.refl _ _ | assumption | apply Below.drew | apply b_drewN | apply b_alloc | (refine Below.setCell ?_ (by (try simp); (try omega)) _) | (refine b_then ?_ (by assumption))))⟩
end Go.Proofs.Ytimmmhfcfocjdaa.slabSteps
