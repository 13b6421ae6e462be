/- The walk of OrderBlocks. -/
import Derived.Test.YtdgeahemjcopkaaOrdOpen
namespace Go.Proofs.Ytdgeahemjcopkaa.orderBlocks
open Go.RowKit

theorem walk (v : Value) (x : Int × Int) (hx : v = .agg #[.int .i64 x.1, .int .i64 x.2] ∧ x.1 ≤ 9223372036854775807) (w : World) :
    Calls Try.prog 4 #[v] w fun e w' => e = .returned (.bool true) ∧ Below w.heap.size w w' := by
  obtain ⟨rfl, hb⟩ := hx
  obtain ⟨a, o⟩ := x
  simp only at hb ⊢
  go_enter Try.func4, Try.ntmps4
  go_wp2_with fail
  have B0 := Blk.new w 30 #[.int .i64 a, .int .i64 o]
  refine (Buddy_any a o _ hb).mono ?_
  rintro e w1 ⟨rfl, hb1⟩
  replace B0 := B0.call hb1
  have c0 := B0.cell 0; have c1 := B0.cell 1; have l0 := B0.lt
  simp only [List.getElem?_toArray, List.getElem?_cons_zero, List.getElem?_cons_succ] at c0 c1
  go_wp2_with fail
  replace B0 := B0.alloc (.cells #[.int .i64 (budA a o), .int .i64 (budO a o)] 30)
  have X := Blk.new w1 30 #[.int .i64 (budA a o), .int .i64 (budO a o)]
  refine (rBuddy_any a o _).mono ?_
  rintro e w2 ⟨rfl, hb2⟩
  replace B0 := B0.call hb2; replace X := X.call hb2
  clear c0 c1
  have c0 := B0.cell 0; have c1 := B0.cell 1; have l0 := B0.lt
  simp only [List.getElem?_toArray, List.getElem?_cons_zero, List.getElem?_cons_succ] at c0 c1
  go_wp2_with fail
  replace B0 := B0.alloc (.cells #[.int .i64 (budA a o), .int .i64 (budO a o)] 30)
  replace X := X.alloc (.cells #[.int .i64 (budA a o), .int .i64 (budO a o)] 30)
  have Y := Blk.new w2 30 #[.int .i64 (budA a o), .int .i64 (budO a o)]
  refine (Parent_any a o _ hb).mono ?_
  rintro e w3 ⟨rfl, hb3⟩
  replace B0 := B0.call hb3; replace X := X.call hb3; replace Y := Y.call hb3
  clear c0 c1
  have c0 := B0.cell 0; have c1 := B0.cell 1; have l0 := B0.lt
  simp only [List.getElem?_toArray, List.getElem?_cons_zero, List.getElem?_cons_succ] at c0 c1
  go_wp2_with fail
  replace B0 := B0.alloc (.cells #[.int .i64 (parA a o), .int .i64 (parO a o)] 30)
  replace X := X.alloc (.cells #[.int .i64 (parA a o), .int .i64 (parO a o)] 30)
  replace Y := Y.alloc (.cells #[.int .i64 (parA a o), .int .i64 (parO a o)] 30)
  have Z := Blk.new w3 30 #[.int .i64 (parA a o), .int .i64 (parO a o)]
  refine (rParent_any a o _).mono ?_
  rintro e w4 ⟨rfl, hb4⟩
  replace B0 := B0.call hb4; replace X := X.call hb4; replace Y := Y.call hb4; replace Z := Z.call hb4
  clear c0 c1
  go_wp2_with fail
  replace B0 := B0.alloc (.cells #[.int .i64 (parA a o), .int .i64 (parO a o)] 30)
  replace X := X.alloc (.cells #[.int .i64 (parA a o), .int .i64 (parO a o)] 30)
  replace Y := Y.alloc (.cells #[.int .i64 (parA a o), .int .i64 (parO a o)] 30)
  replace Z := Z.alloc (.cells #[.int .i64 (parA a o), .int .i64 (parO a o)] 30)
  have U := Blk.new w4 30 #[.int .i64 (parA a o), .int .i64 (parO a o)]
  generalize hW : w4.alloc (.cells #[.int .i64 (parA a o), .int .i64 (parO a o)] 30) = W at *
  have HW : Below w.heap.size w W := by subst hW; exact (by repeat (first | exact Below.refl _ _ | assumption | apply Below.drew | apply b_drewN | apply b_alloc | (refine Below.setCell ?_ (by (try simp); (try omega)) _) | (refine b_then ?_ (by assumption))))
  clear hW hb1 hb2 hb3 hb4
  generalize w1.heap.size = g1 at *
  generalize w2.heap.size = g2 at *
  generalize w3.heap.size = g3 at *
  generalize w4.heap.size = g4 at *
  generalize hg : w.heap.size = g0 at *
  have HS : Hid (∀ V, Below W.heap.size W V → (V.cell? ⟨g0, 0, none⟩ = some (.int .i64 a) ∧ V.cell? ⟨g0, 1, none⟩ = some (.int .i64 o)) ∧ (V.cell? ⟨g1, 0, none⟩ = some (.int .i64 (budA a o)) ∧ V.cell? ⟨g1, 1, none⟩ = some (.int .i64 (budO a o))) ∧ (V.cell? ⟨g2, 0, none⟩ = some (.int .i64 (budA a o)) ∧ V.cell? ⟨g2, 1, none⟩ = some (.int .i64 (budO a o)))
      ∧ (V.cell? ⟨g3, 0, none⟩ = some (.int .i64 (parA a o)) ∧ V.cell? ⟨g3, 1, none⟩ = some (.int .i64 (parO a o))) ∧ (V.cell? ⟨g4, 0, none⟩ = some (.int .i64 (parA a o)) ∧ V.cell? ⟨g4, 1, none⟩ = some (.int .i64 (parO a o)))) :=
    Lib.hid fun V h => ⟨⟨(B0.call h).cell 0, (B0.call h).cell 1⟩, ⟨(X.call h).cell 0, (X.call h).cell 1⟩, ⟨(Y.call h).cell 0, (Y.call h).cell 1⟩, ⟨(Z.call h).cell 0, (Z.call h).cell 1⟩, ⟨(U.call h).cell 0, (U.call h).cell 1⟩⟩
  go_region_held3 (fun V => (V.cell? ⟨g0, 0, none⟩ = some (.int .i64 a) ∧ V.cell? ⟨g0, 1, none⟩ = some (.int .i64 o)) ∧ (V.cell? ⟨g1, 0, none⟩ = some (.int .i64 (budA a o)) ∧ V.cell? ⟨g1, 1, none⟩ = some (.int .i64 (budO a o))) ∧ (V.cell? ⟨g2, 0, none⟩ = some (.int .i64 (budA a o)) ∧ V.cell? ⟨g2, 1, none⟩ = some (.int .i64 (budO a o)))
      ∧ (V.cell? ⟨g3, 0, none⟩ = some (.int .i64 (parA a o)) ∧ V.cell? ⟨g3, 1, none⟩ = some (.int .i64 (parO a o))) ∧ (V.cell? ⟨g4, 0, none⟩ = some (.int .i64 (parA a o)) ∧ V.cell? ⟨g4, 1, none⟩ = some (.int .i64 (parO a o)))) (exact HS.out _ (by repeat (first | exact Below.refl _ _ | assumption | apply Below.drew | apply b_drewN | apply b_alloc | (refine Below.setCell ?_ (by (try simp); (try omega)) _) | (refine b_then ?_ (by assumption)))))
    (first | (go_at_call 19; refine (Check_any _ _ _ hb).mono ?_; rintro e w' ⟨rfl, rfl⟩) | (go_at_call 20; refine (rCheck_any _ _ _).mono ?_; rintro e w' ⟨rfl, n, rfl⟩) | (go_at_call 14; refine (awake_any _).mono ?_; rintro e w9 ⟨rfl, hb9⟩))
  go_wp2
  go_ret
  refine ⟨rfl, ?_⟩
  subst hg
  exact (by repeat (first | exact Below.refl _ _ | assumption | apply Below.drew | apply b_drewN | apply b_alloc | (refine Below.setCell ?_ (by (try simp); (try omega)) _) | (refine b_then ?_ (by assumption))))
end Go.Proofs.Ytdgeahemjcopkaa.orderBlocks
