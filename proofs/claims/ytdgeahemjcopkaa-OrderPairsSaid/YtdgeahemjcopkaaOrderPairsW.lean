/- The walk of OrderPairs. -/
import Derived.Test.YtdgeahemjcopkaaOrdH
import Derived.Test.YtdgeahemjcopkaaOrdOpen
import Derived.Test.YtdgeahemjcopkaaKitA
import Derived.Deep.DeepCutAuto
namespace Go.Proofs.Ytdgeahemjcopkaa.orderPairs
open Go.RowKit

def fact (a o : Int) : Bool :=
  decide (chkS a o = 0) && decide (chkS (bud a o) o = 0) && decide (bud (bud a o) o = a) && decide (par (bud a o) o = par a o) && decide (bud a o ≠ a) && decide (0 ≤ a) && decide (a ≤ 256) && decide (bud a o ≤ 256) && decide (0 ≤ bud a o) && decide (par a o ≤ 256) &&
  decide ((cl [(par a o, o + 1)]).1 = 0) &&
  (if bud a o < a then decide (framesOf [(bud a o, o), (a, o)] = framesOf [(par a o, o + 1)]) && decide ((cl [(bud a o, o), (a, o)]).1 = 0)
   else decide (framesOf [(a, o), (bud a o, o)] = framesOf [(par a o, o + 1)]) && decide ((cl [(a, o), (bud a o, o)]).1 = 0))

theorem fact_all : ∀ o : Fin 6, ∀ m : Fin 256, m.1 < 256 / 2 ^ o.1 → fact ((m.1 : Int) * 2 ^ o.1) (o.1 : Int) = true := by decide +kernel

theorem facts (m o : Int) (h0 : 0 ≤ o) (h1 : o < 6) (h2 : 0 ≤ m) (h3 : m < 256 / 2 ^ o.toNat) : fact (m * 2 ^ o.toNat) o = true := by
  obtain ⟨k, rfl⟩ := Int.eq_ofNat_of_zero_le h0
  obtain ⟨n, rfl⟩ := Int.eq_ofNat_of_zero_le h2
  have e : (256 : Int) / 2 ^ (k : Int).toNat = ((256 / 2 ^ k : Nat) : Int) := by simp
  rw [e] at h3
  have hn : n < 256 / 2 ^ k := by omega
  have hn2 : n < 256 := Nat.lt_of_lt_of_le hn (Nat.div_le_self _ _)
  exact fact_all ⟨k, by omega⟩ ⟨n, hn2⟩ hn

theorem bud_vals (a o : Int) (h : chkS a o = 0) : budA a o = bud a o ∧ budO a o = o ∧ parA a o = par a o ∧ parO a o = o + 1 := by
  simp [budA, budO, parA, parO, h]

set_option maxRecDepth 100000 in
set_option maxHeartbeats 1000000 in
theorem core (a o : Int) (h0 : 0 ≤ o) (h1 : o < 6) (hf : fact a o = true) (w : World) (at_ k_ : Int)
    (hk : k_ % 6 = o) (ha : at_ % (256 / 2 ^ o.toNat) * 2 ^ o.toNat = a) (hbd : 0 ≤ at_ % (256 / 2 ^ o.toNat) ∧ at_ % (256 / 2 ^ o.toNat) ≤ 256) :
    Calls Try.prog 5 #[.int .i64 at_, .int .i64 k_] w fun e w' => e = .returned (.bool true) ∧ Below w.heap.size w w' := by
  unfold fact at hf
  simp only [Bool.and_eq_true, decide_eq_true_eq] at hf
  obtain ⟨⟨⟨⟨⟨⟨⟨⟨⟨⟨⟨f1, f2⟩, f3⟩, f4⟩, f5⟩, f6⟩, f7⟩, f8⟩, f9⟩, f10⟩, f11⟩, f12⟩ := hf
  have hp := pow_bd o h0 (by omega)
  have hq : (1 : Int) ≤ 256 / 2 ^ o.toNat ∧ (256 : Int) / 2 ^ o.toNat ≤ 256 := by
    have : o = 0 ∨ o = 1 ∨ o = 2 ∨ o = 3 ∨ o = 4 ∨ o = 5 := by omega
    rcases this with rfl | rfl | rfl | rfl | rfl | rfl <;> decide
  obtain ⟨v1, v2, v3, v4⟩ := bud_vals a o f1
  obtain ⟨u1, u2, u3, u4⟩ := bud_vals (bud a o) o f2
  have V1 := Lib.hid v1; have V2 := Lib.hid v2; have V3 := Lib.hid v3; have V4 := Lib.hid v4
  have U1 := Lib.hid (u1.trans f3); have U2 := Lib.hid u2; have U3 := Lib.hid (u3.trans f4); have U4 := Lib.hid u4
  have F1 := Lib.hid f1; have F2 := Lib.hid f2; have F5 := Lib.hid f5; have F11 := Lib.hid f11; have F12 := Lib.hid f12
  have HK := Lib.hid hk; have HA := Lib.hid ha
  clear v1 v2 v3 v4 u1 u2 u3 u4 f1 f2 f3 f4 f5 f11 f12 hk ha
  go_enter Try.func5, Try.ntmps5
  go_wp2_with fail
  refine (Mod_any k_ 6 _ (by omega) (by omega)).mono ?_
  rintro e w' ⟨rfl, rfl⟩
  rw [HK.out]
  go_wp2_with fail
  refine (Mod_any at_ _ _ hq.1 (by omega)).mono ?_
  rintro e w' ⟨rfl, rfl⟩
  have hmul : at_ % (256 / 2 ^ o.toNat) * 2 ^ o.toNat ≤ 256 := by rw [HA.out]; exact f7
  have hmul0 : 0 ≤ at_ % (256 / 2 ^ o.toNat) * 2 ^ o.toNat := by rw [HA.out]; exact f6
  go_wp2_with fail
  rw [HA.out]
  clear hmul hmul0
  generalize bud a o = y at *
  generalize par a o = p at *
  refine (b_any _ _ _).mono ?_
  rintro e w' ⟨rfl, rfl⟩
  go_wp2_with fail
  have X : Blk ((w.alloc (.cells #[.int .i64 a, .int .i64 o] 30)).alloc (.cells #[.int .i64 a, .int .i64 o] 30)) (w.heap.size + 1) 30 #[.int .i64 a, .int .i64 o] := blk_new (by simp)
  refine (Buddy_any a o _ (by omega)).mono ?_
  rintro e w1 ⟨rfl, hb1⟩
  rw [V1.out, V2.out, F1.out]
  replace X := X.call hb1
  have cX0 := X.cell 0; have cX1 := X.cell 1; have lX := X.lt
  simp only [List.getElem?_toArray, List.getElem?_cons_zero, List.getElem?_cons_succ] at cX0 cX1
  go_wp2_with fail
  replace X := X.alloc (.cells #[.int .i64 y, .int .i64 o] 30)
  have Y := Blk.new w1 30 #[.int .i64 y, .int .i64 o]
  refine (Buddy_any y o _ (by omega)).mono ?_
  rintro e w2 ⟨rfl, hb2⟩
  rw [U1.out, U2.out, F2.out]
  clear cX0 cX1 lX
  replace X := X.call hb2
  replace Y := Y.call hb2
  have cX0 := X.cell 0; have cX1 := X.cell 1; have lX := X.lt
  have cY0 := Y.cell 0; have cY1 := Y.cell 1; have lY := Y.lt
  simp only [List.getElem?_toArray, List.getElem?_cons_zero, List.getElem?_cons_succ] at cX0 cX1 cY0 cY1
  go_wp2_with fail
  replace X := X.alloc (.cells #[.int .i64 a, .int .i64 o] 30)
  replace Y := Y.alloc (.cells #[.int .i64 a, .int .i64 o] 30)
  have Z := Blk.new w2 30 #[.int .i64 a, .int .i64 o]
  refine (Parent_any a o _ (by omega)).mono ?_
  rintro e w3 ⟨rfl, hb3⟩
  rw [V3.out, V4.out, F1.out]
  clear cX0 cX1 lX cY0 cY1 lY
  replace X := X.call hb3
  replace Y := Y.call hb3
  replace Z := Z.call hb3
  have cX0 := X.cell 0; have cX1 := X.cell 1; have lX := X.lt
  have cY0 := Y.cell 0; have cY1 := Y.cell 1; have lY := Y.lt
  have cZ0 := Z.cell 0; have cZ1 := Z.cell 1; have lZ := Z.lt
  simp only [List.getElem?_toArray, List.getElem?_cons_zero, List.getElem?_cons_succ] at cX0 cX1 cY0 cY1 cZ0 cZ1
  go_wp2_with fail
  replace X := X.alloc (.cells #[.int .i64 p, .int .i64 (o + 1)] 30)
  replace Y := Y.alloc (.cells #[.int .i64 p, .int .i64 (o + 1)] 30)
  replace Z := Z.alloc (.cells #[.int .i64 p, .int .i64 (o + 1)] 30)
  have P := Blk.new w3 30 #[.int .i64 p, .int .i64 (o + 1)]
  refine (Parent_any y o _ (by omega)).mono ?_
  rintro e w4 ⟨rfl, hb4⟩
  rw [U3.out, U4.out, F2.out]
  clear cX0 cX1 lX cY0 cY1 lY cZ0 cZ1 lZ
  replace X := X.call hb4
  replace Y := Y.call hb4
  replace Z := Z.call hb4
  replace P := P.call hb4
  have cX0 := X.cell 0; have cX1 := X.cell 1; have lX := X.lt
  have cY0 := Y.cell 0; have cY1 := Y.cell 1; have lY := Y.lt
  have cZ0 := Z.cell 0; have cZ1 := Z.cell 1; have lZ := Z.lt
  have cP0 := P.cell 0; have cP1 := P.cell 1; have lP := P.lt
  simp only [List.getElem?_toArray, List.getElem?_cons_zero, List.getElem?_cons_succ] at cX0 cX1 cY0 cY1 cZ0 cZ1 cP0 cP1
  go_wp2_with fail
  replace X := X.alloc (.cells #[.int .i64 p, .int .i64 (o + 1)] 30)
  replace Y := Y.alloc (.cells #[.int .i64 p, .int .i64 (o + 1)] 30)
  replace Z := Z.alloc (.cells #[.int .i64 p, .int .i64 (o + 1)] 30)
  replace P := P.alloc (.cells #[.int .i64 p, .int .i64 (o + 1)] 30)
  clear cX0 cX1 lX cY0 cY1 lY cZ0 cZ1 lZ cP0 cP1 lP
  generalize hW : w4.alloc (.cells #[.int .i64 p, .int .i64 (o + 1)] 30) = W at *
  have HW : Below w.heap.size w W := by subst hW; exact (by repeat (first | exact Below.refl _ _ | assumption | apply Below.drew | apply b_drewN | apply b_alloc | (refine Below.setCell ?_ (by (try simp); (try omega)) _) | (refine b_then ?_ (by assumption))))
  clear hW hb1 hb2 hb3 hb4
  have cX0 := X.cell 0; have cX1 := X.cell 1; have lX := X.lt
  have cY0 := Y.cell 0; have cY1 := Y.cell 1; have lY := Y.lt
  simp only [List.getElem?_toArray, List.getElem?_cons_zero, List.getElem?_cons_succ] at cX0 cX1 cY0 cY1
  have lX1 : w.heap.size + 1 < W.heap.size + 1 := by omega
  have lY1 : w1.heap.size < W.heap.size + 1 := by omega
  go_cut [16, 17] (fun s16 s17 wx => ∃ gl gh : Nat, s16 = .pointer (some ⟨gl, 0, none⟩) ∧ s17 = .pointer (some ⟨gh, 0, none⟩) ∧ Blk wx gl 30 #[.int .i64 a, .int .i64 o] ∧ Blk wx gh 30 #[.int .i64 y, .int .i64 o] ∧ gl ≠ gh ∧ W.heap.size ≤ gl ∧ W.heap.size ≤ gh ∧ Below W.heap.size W wx)
  case first =>
    go_region
    all_goals (go_wp2_with fail; go_meet)
    all_goals first
      | exact ⟨W.heap.size, W.heap.size + 1, rfl, rfl, ((Blk.new _ _ _).alloc _).drew, (blk_new (by simp)).drew, by omega, Nat.le_refl _, by omega, (by repeat (first | exact Below.refl _ _ | assumption | apply Below.drew | apply b_drewN | apply b_alloc | (refine Below.setCell ?_ (by (try simp); (try omega)) _) | (refine b_then ?_ (by assumption))))⟩
      | exact ⟨W.heap.size + 1, W.heap.size, rfl, rfl, (blk_new (by simp)).drew, ((Blk.new _ _ _).alloc _).drew, by omega, by omega, Nat.le_refl _, (by repeat (first | exact Below.refl _ _ | assumption | apply Below.drew | apply b_drewN | apply b_alloc | (refine Below.setCell ?_ (by (try simp); (try omega)) _) | (refine b_then ?_ (by assumption))))⟩
  case rest =>
    obtain ⟨gl, gh, rfl, rfl, hgl, hgh, hne, hl1, hl2, hbc⟩ := hcut
    clear cX0 cX1 lX cY0 cY1 lY lX1 lY1
    have X1 := X.call hbc; have Y1 := Y.call hbc; have P1 := P.call hbc
    have cX0 := X1.cell 0; have cX1 := X1.cell 1; have cY0 := Y1.cell 0; have cY1 := Y1.cell 1
    have cl0 := hgl.cell 0; have cl1 := hgl.cell 1; have ch0 := hgh.cell 0; have ch1 := hgh.cell 1
    have fl0 := hgl.frozen 0; have fl1 := hgl.frozen 1; have fh0 := hgh.frozen 0; have fh1 := hgh.frozen 1
    simp only [List.getElem?_toArray, List.getElem?_cons_zero, List.getElem?_cons_succ] at cX0 cX1 cY0 cY1 cl0 cl1 ch0 ch1
    have hlen : (framesOf [(p, o + 1)]).length ≤ 9223372036854775807 := by
      have := framesOf_len [(p, o + 1)] (cl_valid F11.out)
      simp only [List.length_cons, List.length_nil] at this
      omega
    have hx1 := X.lt; have hy1 := Y.lt; have hp1 := P.lt
    by_cases hlt : y < a
    · have G := F12.out
      rw [if_pos hlt] at G
      simp only [Bool.and_eq_true, decide_eq_true_eq] at G
      have G1 := Lib.hid G.1; have G2 := Lib.hid G.2
      clear G
      go_wp2_with fail
      go_cut [] (fun wx => Blk wx gl 30 #[.int .i64 y, .int .i64 o] ∧ Blk wx gh 30 #[.int .i64 a, .int .i64 o] ∧ Blk wx w3.heap.size 30 #[.int .i64 p, .int .i64 (o + 1)] ∧ Below W.heap.size W wx)
      case first =>
        go_region
        go_wp2_with fail
        go_meet
        refine ⟨?_, ?_, ?_, (by repeat (first | exact Below.refl _ _ | assumption | apply Below.drew | apply b_drewN | apply b_alloc | (refine Below.setCell ?_ (by (try simp); (try omega)) _) | (refine b_then ?_ (by assumption))))⟩
        · exact (((((hgl.set_ 0 (.int .i64 y)).set_ 1 (.int .i64 o)).far (p := ⟨gh, 0, none⟩) hne (.int .i64 a)).far (p := ⟨gh, 1, none⟩) hne (.int .i64 o))).drew
        · exact (((((hgh.far (p := ⟨gl, 0, none⟩) (Ne.symm hne) (.int .i64 y)).far (p := ⟨gl, 1, none⟩) (Ne.symm hne) (.int .i64 o)).set_ 0 (.int .i64 a)).set_ 1 (.int .i64 o))).drew
        · exact (((((P1.far (p := ⟨gl, 0, none⟩) (by simp; omega) (.int .i64 y)).far (p := ⟨gl, 1, none⟩) (by simp; omega) (.int .i64 o)).far (p := ⟨gh, 0, none⟩) (by simp; omega) (.int .i64 a)).far (p := ⟨gh, 1, none⟩) (by simp; omega) (.int .i64 o))).drew
      case rest =>
        obtain ⟨hgl2, hgh2, P3, hbc2⟩ := hcut
        clear cl0 cl1 ch0 ch1 fl0 fl1 fh0 fh1 cX0 cX1 cY0 cY1
        have cl0 := hgl2.cell 0; have cl1 := hgl2.cell 1; have ch0 := hgh2.cell 0; have ch1 := hgh2.cell 1
        simp only [List.getElem?_toArray, List.getElem?_cons_zero, List.getElem?_cons_succ] at cl0 cl1 ch0 ch1
        go_wp2_with fail
        refine (Frames_ok _ [(y, o), (a, o)] _ (rd_blk codedB (blk_new rfl) rfl rfl) (by simp) (by simp; omega) G2.out).mono ?_
        rintro e w6 ⟨u1, rfl, hu1, hb6⟩
        have P2 := (P3.alloc _).call hb6
        have e0 := P2.cell 0; have e1 := P2.cell 1
        simp only [List.getElem?_toArray, List.getElem?_cons_zero, List.getElem?_cons_succ] at e0 e1
        go_wp2_with fail
        refine (Frames_ok _ [(p, o + 1)] _ (rd_blk codedB (blk_new rfl) rfl rfl) (by simp) (by simp; omega) F11.out).mono ?_
        rintro e w7 ⟨u2, rfl, hu2, hb7⟩
        go_wp2_with fail
        have hu3 := (hu1.alloc _).keep hb7
        rw [G1.out] at hu3
        refine (SameInts_true _ _ _ _ hu3 hu2 hlen).mono ?_
        rintro e w8 ⟨rfl, nn, rfl⟩
        go_wp2_with fail
        refine (awake_any _).mono ?_
        rintro e w9 ⟨rfl, hb9⟩
        go_wp2
        go_ret
        exact ⟨rfl, (by repeat (first | exact Below.refl _ _ | assumption | apply Below.drew | apply b_drewN | apply b_alloc | (refine Below.setCell ?_ (by (try simp); (try omega)) _) | (refine b_then ?_ (by assumption))))⟩
    · have G := F12.out
      rw [if_neg hlt] at G
      simp only [Bool.and_eq_true, decide_eq_true_eq] at G
      have G1 := Lib.hid G.1; have G2 := Lib.hid G.2
      clear G
      go_wp2_with fail
      refine (Frames_ok _ [(a, o), (y, o)] _ (rd_blk codedB (blk_new rfl) rfl rfl) (by simp) (by simp; omega) G2.out).mono ?_
      rintro e w6 ⟨u1, rfl, hu1, hb6⟩
      have P2 := (P1.alloc _).call hb6
      have e0 := P2.cell 0; have e1 := P2.cell 1
      simp only [List.getElem?_toArray, List.getElem?_cons_zero, List.getElem?_cons_succ] at e0 e1
      go_wp2_with fail
      refine (Frames_ok _ [(p, o + 1)] _ (rd_blk codedB (blk_new rfl) rfl rfl) (by simp) (by simp; omega) F11.out).mono ?_
      rintro e w7 ⟨u2, rfl, hu2, hb7⟩
      go_wp2_with fail
      have hu3 := (hu1.alloc _).keep hb7
      rw [G1.out] at hu3
      refine (SameInts_true _ _ _ _ hu3 hu2 hlen).mono ?_
      rintro e w8 ⟨rfl, nn, rfl⟩
      go_wp2_with fail
      refine (awake_any _).mono ?_
      rintro e w9 ⟨rfl, hb9⟩
      go_wp2
      go_ret
      exact ⟨rfl, (by repeat (first | exact Below.refl _ _ | assumption | apply Below.drew | apply b_drewN | apply b_alloc | (refine Below.setCell ?_ (by (try simp); (try omega)) _) | (refine b_then ?_ (by assumption))))⟩

theorem walk (at_ : Int) (_ : (Lit.int .i64 at_).wf = true) (k_ : Int) (_ : (Lit.int .i64 k_).wf = true) (w : World) :
    Calls Try.prog 5 #[.int .i64 at_, .int .i64 k_] w fun e w' => e = .returned (.bool true) ∧ Below w.heap.size w w' := by
  have h0 := Int.emod_nonneg k_ (show (6 : Int) ≠ 0 by omega)
  have h1 := Int.emod_lt_of_pos k_ (show (0 : Int) < 6 by omega)
  have hq : (1 : Int) ≤ 256 / 2 ^ (k_ % 6).toNat ∧ (256 : Int) / 2 ^ (k_ % 6).toNat ≤ 256 := by
    generalize k_ % 6 = o at *
    have : o = 0 ∨ o = 1 ∨ o = 2 ∨ o = 3 ∨ o = 4 ∨ o = 5 := by omega
    rcases this with rfl | rfl | rfl | rfl | rfl | rfl <;> decide
  have g0 := Int.emod_nonneg at_ (show (256 : Int) / 2 ^ (k_ % 6).toNat ≠ 0 by omega)
  have g1 := Int.emod_lt_of_pos at_ (show (0 : Int) < 256 / 2 ^ (k_ % 6).toNat by omega)
  exact core _ (k_ % 6) h0 h1 (facts _ _ h0 h1 g0 g1) w at_ k_ rfl rfl ⟨g0, by omega⟩
end Go.Proofs.Ytdgeahemjcopkaa.orderPairs
