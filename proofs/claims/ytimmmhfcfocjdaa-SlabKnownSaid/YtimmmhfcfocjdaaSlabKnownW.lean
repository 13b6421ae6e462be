/- The walk of SlabKnown. -/
import Derived.Test.YtimmmhfcfocjdaaSlabM
import Derived.Test.YtimmmhfcfocjdaaSlabOpen
namespace Go.Proofs.Ytimmmhfcfocjdaa.slabKnown
open Go.RowKit

set_option maxRecDepth 100000 in
set_option maxHeartbeats 1500000 in
theorem walk (w : World) : Calls Try.prog 9 #[] w fun e w' => e = .returned (.bool true) ∧ Below w.heap.size w w' := by
  go_enter Try.func9, Try.ntmps9
  go_wp2_with fail
  refine (s_any _ _).mono ?_
  rintro e w' ⟨rfl, rfl⟩
  go_wp2_with fail
  refine (state_true 5 0 1 _ (by omega) (by omega) (by decide)).mono ?_
  rintro e w1 ⟨rfl, hb1⟩
  go_wp2_with fail
  refine (s_any _ _).mono ?_
  rintro e w' ⟨rfl, rfl⟩
  go_wp2_with fail
  refine (state_true 5 1 2 _ (by omega) (by omega) (by decide)).mono ?_
  rintro e w2 ⟨rfl, hb2⟩
  have HB : Below w.heap.size w w2 := (by repeat (first | exact Below.refl _ _ | assumption | apply Below.drew | apply b_drewN | apply b_alloc | (refine Below.setCell ?_ (by (try simp); (try omega)) _) | (refine b_then ?_ (by assumption))))
  clear hb1 hb2
  go_wp2_with fail
  refine (s_any _ _).mono ?_
  rintro e w' ⟨rfl, rfl⟩
  go_wp2_with fail
  refine (Alloc_any 5 255 _ (by omega) (by omega)).mono ?_
  rintro e w3 ⟨rfl, hb3⟩
  rw [show alF 5 255 = 0 by decide +kernel, show alU 5 255 = 0 by decide +kernel, show alO 5 255 = 0 by decide +kernel, show alE 5 255 = 5 by decide +kernel]
  replace HB : Below w.heap.size w w3 := (by repeat (first | exact Below.refl _ _ | assumption | apply Below.drew | apply b_drewN | apply b_alloc | (refine Below.setCell ?_ (by (try simp); (try omega)) _) | (refine b_then ?_ (by assumption))))
  clear hb3
  go_wp2_with fail
  refine (s_any _ _).mono ?_
  rintro e w' ⟨rfl, rfl⟩
  go_wp2_with fail
  refine (Free_any 5 5 41 _ (by omega) (by omega)).mono ?_
  rintro e w4 ⟨rfl, hb4⟩
  rw [show frF 5 5 41 = 0 by decide +kernel, show frU 5 5 41 = 0 by decide +kernel, show frE 5 5 41 = 6 by decide +kernel]
  replace HB : Below w.heap.size w w4 := (by repeat (first | exact Below.refl _ _ | assumption | apply Below.drew | apply b_drewN | apply b_alloc | (refine Below.setCell ?_ (by (try simp); (try omega)) _) | (refine b_then ?_ (by assumption))))
  clear hb4
  go_wp2_with fail
  refine (s_any _ _).mono ?_
  rintro e w' ⟨rfl, rfl⟩
  go_wp2_with fail
  refine (Free_any 5 5 34 _ (by omega) (by omega)).mono ?_
  rintro e w5 ⟨rfl, hb5⟩
  rw [show frF 5 5 34 = 0 by decide +kernel, show frU 5 5 34 = 0 by decide +kernel, show frE 5 5 34 = 6 by decide +kernel]
  replace HB : Below w.heap.size w w5 := (by repeat (first | exact Below.refl _ _ | assumption | apply Below.drew | apply b_drewN | apply b_alloc | (refine Below.setCell ?_ (by (try simp); (try omega)) _) | (refine b_then ?_ (by assumption))))
  clear hb5
  go_wp2_with fail
  refine (s_any _ _).mono ?_
  rintro e w' ⟨rfl, rfl⟩
  go_wp2_with fail
  refine (Free_any 5 5 2048 _ (by omega) (by omega)).mono ?_
  rintro e w6 ⟨rfl, hb6⟩
  rw [show frF 5 5 2048 = 0 by decide +kernel, show frU 5 5 2048 = 0 by decide +kernel, show frE 5 5 2048 = 2 by decide +kernel]
  replace HB : Below w.heap.size w w6 := (by repeat (first | exact Below.refl _ _ | assumption | apply Below.drew | apply b_drewN | apply b_alloc | (refine Below.setCell ?_ (by (try simp); (try omega)) _) | (refine b_then ?_ (by assumption))))
  clear hb6
  go_wp2_with fail
  refine (s_any _ _).mono ?_
  rintro e w' ⟨rfl, rfl⟩
  go_wp2_with fail
  refine (Objects_any 5 129 _ (by omega) (by omega)).mono ?_
  rintro e w7 ⟨v7, rfl, hv7, hb7⟩
  rw [show objsA 5 129 = [40, 47] by decide +kernel] at hv7
  rw [show schk 5 = 0 by decide +kernel]
  replace HB : Below w.heap.size w w7 := (by repeat (first | exact Below.refl _ _ | assumption | apply Below.drew | apply b_drewN | apply b_alloc | (refine Below.setCell ?_ (by (try simp); (try omega)) _) | (refine b_then ?_ (by assumption))))
  clear hb7
  go_wp2_with fail
  refine (Split_ok 47 _ (by omega) (by omega)).mono ?_
  rintro e w' ⟨rfl, rfl⟩
  go_wp2_with fail
  have hr2 : Rd encI 1 (w7.alloc (.cells #[.int .i64 40, .int .i64 47] 3)) (.slice (some ⟨w7.heap.size, 0, none⟩) 2 2) [40, 47] := rd_blk codedI (blk_new rfl) rfl rfl
  refine (SameInts_true _ _ [40, 47] _ (hv7.alloc _) hr2 (by simp)).mono ?_
  rintro e w8 ⟨rfl, nn, hW8⟩
  replace HB : Below w.heap.size w w8 := by rw [hW8]; exact (by repeat (first | exact Below.refl _ _ | assumption | apply Below.drew | apply b_drewN | apply b_alloc | (refine Below.setCell ?_ (by (try simp); (try omega)) _) | (refine b_then ?_ (by assumption))))
  clear hW8 hv7 hr2
  go_wp2_with fail
  have F := Blk.new w8 29 #[.int .i64 3, .int .u8 255]
  have hrr : Rd encS 2 ((w8.alloc (.cells #[.int .i64 3, .int .u8 255] 29)).alloc (.cells #[.int .i64 3, .int .u8 255, .int .i64 4, .int .u8 1, .int .i64 9, .int .u8 1] 29)) (.slice (some ⟨w8.heap.size + 1, 0, none⟩) 3 3) [(3, 255), (4, 1), (9, 1)] := rd_blk codedS (blk_new (by simp)) rfl rfl
  refine (First_any _ [(3, 255), (4, 1), (9, 1)] _ hrr (by simp)).mono ?_
  clear hrr
  rintro e w9 ⟨rfl, hb9⟩
  rw [show ftA [(3, 255), (4, 1), (9, 1)] = 1 by decide +kernel, show (sl [(3, 255), (4, 1), (9, 1)]).1 = 0 by decide +kernel]
  replace F := (F.alloc _).call hb9
  replace HB : Below w.heap.size w w9 := (by repeat (first | exact Below.refl _ _ | assumption | apply Below.drew | apply b_drewN | apply b_alloc | (refine Below.setCell ?_ (by (try simp); (try omega)) _) | (refine b_then ?_ (by assumption))))
  have c0 := F.cell 0; have c1 := F.cell 1; have lF := F.lt
  simp only [List.getElem?_toArray, List.getElem?_cons_zero, List.getElem?_cons_succ] at c0 c1
  clear hb9
  go_wp2_with fail
  have hrr : Rd encS 2 (w9.alloc (.cells #[.int .i64 3, .int .u8 255] 29)) (.slice (some ⟨w9.heap.size, 0, none⟩) 1 1) [(3, 255)] := rd_blk codedS (blk_new rfl) rfl rfl
  refine (First_any _ [(3, 255)] _ hrr (by simp)).mono ?_
  clear hrr
  rintro e w10 ⟨rfl, hb10⟩
  rw [show ftA [(3, 255)] = -1 by decide +kernel, show (sl [(3, 255)]).1 = 0 by decide +kernel]
  replace F := (F.alloc _).call hb10
  replace HB : Below w.heap.size w w10 := (by repeat (first | exact Below.refl _ _ | assumption | apply Below.drew | apply b_drewN | apply b_alloc | (refine Below.setCell ?_ (by (try simp); (try omega)) _) | (refine b_then ?_ (by assumption))))
  clear c0 c1 lF hb10
  go_wp2_with fail
  refine (First_any _ [] _ Rd.nil (by simp)).mono ?_
  rintro e w11 ⟨rfl, hb11⟩
  rw [show ftA [] = -1 by decide +kernel, show (sl []).1 = 0 by decide +kernel]
  replace F := F.call hb11
  replace HB : Below w.heap.size w w11 := (by repeat (first | exact Below.refl _ _ | assumption | apply Below.drew | apply b_drewN | apply b_alloc | (refine Below.setCell ?_ (by (try simp); (try omega)) _) | (refine b_then ?_ (by assumption))))
  have c0 := F.cell 0; have c1 := F.cell 1; have lF := F.lt
  simp only [List.getElem?_toArray, List.getElem?_cons_zero, List.getElem?_cons_succ] at c0 c1
  clear hb11
  go_wp2_with fail
  have hrr : Rd encS 2 (w11.alloc (.cells #[.int .i64 3, .int .u8 255, .int .i64 3, .int .u8 255] 29)) (.slice (some ⟨w11.heap.size, 0, none⟩) 2 2) [(3, 255), (3, 255)] := rd_blk codedS (blk_new rfl) rfl rfl
  refine (sCheckList_any _ [(3, 255), (3, 255)] _ hrr (by simp)).mono ?_
  clear hrr
  rintro e w12 ⟨rfl, hb12⟩
  rw [show (sl [(3, 255), (3, 255)]).1 = 8 by decide +kernel, show (sl [(3, 255), (3, 255)]).2 = 1 by decide +kernel]
  replace HB : Below w.heap.size w w12 := (by repeat (first | exact Below.refl _ _ | assumption | apply Below.drew | apply b_drewN | apply b_alloc | (refine Below.setCell ?_ (by (try simp); (try omega)) _) | (refine b_then ?_ (by assumption))))
  clear c0 c1 lF hb12 F
  go_wp2_with fail
  have hrr : Rd encS 2 (w12.alloc (.cells #[.int .i64 4, .int .u8 0, .int .i64 256, .int .u8 255] 29)) (.slice (some ⟨w12.heap.size, 0, none⟩) 2 2) [(4, 0), (256, 255)] := rd_blk codedS (blk_new rfl) rfl rfl
  refine (sCheckList_any _ [(4, 0), (256, 255)] _ hrr (by simp)).mono ?_
  clear hrr
  rintro e w13 ⟨rfl, hb13⟩
  rw [show (sl [(4, 0), (256, 255)]).1 = 9 by decide +kernel, show (sl [(4, 0), (256, 255)]).2 = 0 by decide +kernel]
  replace HB : Below w.heap.size w w13 := (by repeat (first | exact Below.refl _ _ | assumption | apply Below.drew | apply b_drewN | apply b_alloc | (refine Below.setCell ?_ (by (try simp); (try omega)) _) | (refine b_then ?_ (by assumption))))
  clear hb13
  go_wp2_with fail
  refine (awake_any _).mono ?_
  rintro e w14 ⟨rfl, hb14⟩
  go_wp2
  go_ret
  exact ⟨rfl, (by repeat (first | exact Below.refl _ _ | assumption | apply Below.drew | apply b_drewN | apply b_alloc | (refine Below.setCell ?_ (by (try simp); (try omega)) _) | (refine b_then ?_ (by assumption))))⟩
end Go.Proofs.Ytimmmhfcfocjdaa.slabKnown
