/- The walk of SlabTotals. -/
import Derived.Test.YtimmmhfcfocjdaaSlabM
import Derived.Test.YtimmmhfcfocjdaaSlabOpen
import Derived.Test.YtimmmhfcfocjdaaOpen1
import Derived.Test.YtimmmhfcfocjdaaKitA
import Derived.Deep.DeepMust
namespace Go.Proofs.Ytimmmhfcfocjdaa.slabTotals
open Go.RowKit Go.ChangeShapes Go.WideShapes

theorem open_nums {H : Type} {enc : TypeId × Value → H} {W : World} {base : Nat} {v : Value} {d : DataW H} {p : List MemPlace}
    (hv : Value.okWide Try.prog W .any base 38 v) (h : DataW.Trod enc Try.prog W 0 (fun _ => true) true 38 v d p) :
    ∃ l : List Int, Rd encI 1 W v l ∧ (l.length ≤ maxLen ∧ ∀ x ∈ l, (Lit.int .i64 x).wf = true) :=
  open_intl Try.underlying38 Try.underlying3 (by kernel_rfl) hv h

theorem infoS : (Try.prog.info? 29).map (fun i => (i.zero, i.size, i.bytes)) = some (some (.agg #[.int .i64 0, .int .u8 0]), 2, 16) := by kernel_rfl
theorem elemS : ElemT Try.prog 44 29 2 16 := elemT Try.underlying44 infoS rfl (by decide)

def mkL : Nat → List Int → List (Int × Int)
  | _, [] => []
  | i, n :: t => (3 * (i : Int), 1 + n % 255) :: mkL (i + 1) t
theorem mkL_append : ∀ (a b : List Int) (i : Nat), mkL i (a ++ b) = mkL i a ++ mkL (i + a.length) b
  | [], b, i => by simp [mkL]
  | n :: t, b, i => by simp [mkL, mkL_append t b (i + 1)]; congr 1; omega
theorem mkL_len : ∀ (a : List Int) (i : Nat), (mkL i a).length = a.length
  | [], _ => rfl
  | n :: t, i => by simp [mkL, mkL_len t (i + 1)]
theorem mkL_ok : ∀ (a : List Int) (i j : Nat) (pv : Int), pv < 3 * i → i + a.length ≤ 40 → slGo j pv (mkL i a) = (0, 0)
  | [], _, _, _, _, _ => rfl
  | n :: t, i, j, pv, h, h' => by
    simp only [List.length_cons] at h'
    have h0 := Int.emod_nonneg n (show (255 : Int) ≠ 0 by decide)
    rw [mkL, slGo_go (schk_ok (by simp only; omega) (by simp only; omega)) (by simp only; omega) (by simp only; omega)]
    exact mkL_ok t (i + 1) (j + 1) _ (by simp only; omega) (by omega)
theorem mkL_bd : ∀ (a : List Int) (i : Nat), ∀ s ∈ mkL i a, 0 ≤ s.2 ∧ s.2 ≤ 255
  | [], _, s, hs => by simp [mkL] at hs
  | n :: t, i, s, hs => by
    have h0 := Int.emod_nonneg n (show (255 : Int) ≠ 0 by decide)
    have h1 := Int.emod_lt_of_pos n (show (0 : Int) < 255 by decide)
    rw [mkL] at hs
    rcases List.mem_cons.1 hs with rfl | hs
    · exact ⟨by simp only; omega, by simp only; omega⟩
    · exact mkL_bd t (i + 1) s hs

theorem ft_ge : ∀ (l : List (Int × Int)) (i : Nat), ftGo i l = -1 ∨ (i : Int) ≤ ftGo i l
  | [], _ => .inl rfl
  | s :: l, i => by
    by_cases h : s.2 = 255
    · rw [ftGo_no h]
      rcases ft_ge l (i + 1) with h | h
      · exact .inl h
      · exact .inr (by omega)
    · rw [ftGo_yes h]; exact .inr (Int.le_refl _)
theorem ft_snoc : ∀ (l : List (Int × Int)) (i : Nat) (x : Int × Int), ftGo i (l ++ [x]) = if ftGo i l < 0 then (if x.2 ≠ 255 then ((i + l.length : Nat) : Int) else -1) else ftGo i l
  | [], i, x => by
    have : ftGo i [] = -1 := rfl
    rw [this, if_pos (by decide)]
    simp [ftGo]
  | s :: l, i, x => by
    rw [List.cons_append]
    by_cases h : s.2 = 255
    · rw [ftGo_no h, ftGo_no h, ft_snoc l (i + 1) x, List.length_cons]
      rw [show i + 1 + l.length = i + (l.length + 1) by omega]
    · rw [ftGo_yes h, ftGo_yes h, if_neg (by omega)]

def ts (l : List (Int × Int)) : Int := (l.map fun s => oc s.2).sum
theorem ts_snoc (l : List (Int × Int)) (x : Int × Int) : ts (l ++ [x]) = ts l + oc x.2 := by simp [ts, List.sum_append]

set_option maxRecDepth 100000 in
set_option maxHeartbeats 800000 in
theorem walk (v : Value) (l : List Int) (W : World) (hr : Rd encI 1 W v l ∧ (l.length ≤ maxLen ∧ ∀ x ∈ l, (Lit.int .i64 x).wf = true)) :
    Calls Try.prog 8 #[v] W fun e w' => e = .returned (.bool true) ∧ Below W.heap.size W w' := by
  obtain ⟨h, hm, hb⟩ := hr
  have hm' : l.length ≤ 9223372036854775807 := by simp only [maxLen] at hm; omega
  obtain ⟨A, c, rfl, hc, hx⟩ := rd_int h
  clear h hb
  go_enter Try.func8, Try.ntmps8
  go_wp2
  go_loopw [3, 4, 5, 6] (fun s n q i wr => ∃ (k : Nat) (L : List (Int × Int)) (z f : Int), k ≤ l.length ∧ k ≤ 40 ∧ i = .int .i64 k ∧ n = .int .i64 z ∧ q = .int .i64 f ∧ Hid (L = mkL 0 (l.take k)) ∧ L.length = k ∧ Hid (z = ts L) ∧ 0 ≤ z ∧ z ≤ 8 * k ∧ Hid (f = ftGo 0 L) ∧ Own encS 2 W.heap.size 29 wr s L ∧ Below W.heap.size W wr) (fun _ _ _ i _ => 40 - (intOf i).toNat)
  case atStart => exact ⟨0, [], 0, -1, Nat.zero_le _, by omega, rfl, rfl, rfl, rfl, rfl, rfl, by omega, by omega, rfl, Own.nil _, Below.refl _ _⟩
  case round =>
    obtain ⟨k, L, z, f, hk, hk40, rfl, rfl, rfl, hL, hLl, hz, hz0, hz1, hf, hown, hbel⟩ := hrel
    have hzz := hbel.size
    by_cases hlt : k < l.length ∧ k < 40
    · obtain ⟨hlt, hlt40⟩ := hlt
      obtain ⟨b, off, rfl, hbb, p0⟩ := hx k hlt
      have q0 : wr.cell? ⟨b, off + k, none⟩ = some (.int .i64 l[k]) := (hbel.cell (p := ⟨b, off + k, none⟩) hbb).trans p0
      have m0 := Int.emod_nonneg l[k] (show (255 : Int) ≠ 0 by decide)
      have m1 := Int.emod_lt_of_pos l[k] (show (0 : Int) < 255 by decide)
      have hL2 : Hid (L ++ [(3 * (k : Int), 1 + l[k] % 255)] = mkL 0 (l.take (k + 1))) := Lib.hid (by
        rw [List.take_succ_eq_append_getElem hlt, mkL_append, ← hL.out]
        have : (l.take k).length = k := by simp; omega
        simp [mkL, this])
      clear p0 hx
      generalize hu : 1 + l[k] % 255 = u at *
      have u0 : 1 ≤ u := by omega
      have u1 : u ≤ 255 := by omega
      obtain ⟨o0, o8, o1, o2⟩ := oc_zero u (by omega) u1
      have hw1 : IntKind.u8.wrap u = u := by simp [IntKind.wrap, IntKind.bits, IntKind.signed]; omega
      have hcn : Hid (cnt (3 * (k : Int)) u = oc u) := Lib.hid (by simp [cnt, schk_ok (show 0 ≤ 3 * (k : Int) by omega) (by omega)])
      have hsk : Hid (schk (3 * (k : Int)) = 0) := Lib.hid (schk_ok (by omega) (by omega))
      have hts : Hid (z + oc u = ts (L ++ [(3 * (k : Int), u)])) := Lib.hid (by rw [ts_snoc, hz.out])
      have hft := Lib.hid (ft_snoc L 0 (3 * (k : Int), u))
      have hwz : IntKind.i64.wrap (z + oc u) = z + oc u := IntWalk.i64_in _ (by omega)
      clear o0
      generalize l[k] = x at *
      have hw3 : IntKind.i64.wrap (3 * (k : Int)) = 3 * k := IntWalk.i64_in _ (by omega)
      have hd1 : decide ((k : Int) < l.length) = true := by simp; omega
      have hd2 : decide ((k : Int) < 40) = true := by simp; omega
      have Hx : Hid (x % 255 = u - 1) := Lib.hid (by omega)
      have hw4 : IntKind.i64.wrap (1 + (u - 1)) = u := by rw [IntWalk.i64_in _ (by omega)]; omega
      clear hu m0 m1
      have hgf := ft_ge L 0
      rw [← hf.out] at hgf
      have hgf' : Hid (f = -1 ∨ 0 ≤ f) := Lib.hid (by simpa using hgf)
      clear hgf
      go_wp2_with fail
      refine (Mod_any _ _ _ (by omega) (by omega)).mono ?_
      rintro e w' ⟨rfl, rfl⟩
      rw [Hx.out]
      go_wp2_with fail
      have X := Blk.new wr 29 #[.int .i64 (3 * (k : Int)), .int .u8 u]
      have own0 := hown.alloc (.cells #[.int .i64 (3 * (k : Int)), .int .u8 u] 29)
      have bel0 := Below.alloc hbel hzz (.cells #[.int .i64 (3 * (k : Int)), .int .u8 u] 29)
      refine (Count_any _ _ _ (by omega) (by omega)).mono ?_
      rintro e w1 ⟨rfl, hb1⟩
      rw [hcn.out, hsk.out]
      replace X := X.call hb1
      have own1 := own0.call hb1
      have bel1 := b_then bel0 hb1
      have bz1 := bel1.size
      have c0 : w1.cell? ⟨wr.heap.size, 0, none⟩ = some (.int .i64 (3 * (k : Int))) := X.cell 0
      have c1 : w1.cell? ⟨wr.heap.size, 1, none⟩ = some (.int .u8 u) := X.cell 1
      have lX := X.lt
      clear own0 bel0 hown hbel hb1 q0
      by_cases h255 : u = 255
      · have d8 : decide (oc u < 8) = false := by simp [h255] at o8 ⊢; rw [o8]; decide
        have HF : Hid (f = ftGo 0 (L ++ [(3 * (k : Int), u)])) := Lib.hid (by
          rw [hft.out, ← hf.out]
          rcases hgf'.out with e | e
          · rw [e, if_pos (by decide), if_neg (by simp [h255])]
          · rw [if_neg (by omega)])
        clear hft h255 o8
        go_wp2_with (at_builtin; go_must (refine wpList_append1 _ rfl _ _ rfl elemS codedS _ L rfl (own1.alloc _) _ (3 * (k : Int), u) rfl (blk_new (by simp)) (by simp only [maxLen]; omega) (by omega) (by simp; omega) ?_); intro v2 w2 hown2 hg2 hat2)
        go_roundw
        case rel =>
          refine ⟨k + 1, L ++ [(3 * (k : Int), u)], z + oc u, f, by omega, by omega, by go_num, rfl, rfl, hL2.out, by simp [hLl], hts.out, by omega, by omega, HF.out, hown2, ?_⟩
          exact (Below.alloc bel1 bz1 _).grown hg2 (by simp; omega) (fun k hk => (own1.lt k hk).1)
        case measure => simp [intOf]; omega
      · have d8 : decide (oc u < 8) = true := by simp [h255] at o8 ⊢; omega
        by_cases hfn : f < 0
        · have d9 : decide (f < 0) = true := by simp [hfn]
          have HF : Hid ((k : Int) = ftGo 0 (L ++ [(3 * (k : Int), u)])) := Lib.hid (by rw [hft.out, ← hf.out]; rw [if_pos hfn, if_pos h255, hLl]; simp)
          clear hft h255 o8
          go_wp2_with (at_builtin; go_must (refine wpList_append1 _ rfl _ _ rfl elemS codedS _ L rfl (own1.alloc _) _ (3 * (k : Int), u) rfl (blk_new (by simp)) (by simp only [maxLen]; omega) (by omega) (by simp; omega) ?_); intro v2 w2 hown2 hg2 hat2)
          go_roundw
          case rel =>
            refine ⟨k + 1, L ++ [(3 * (k : Int), u)], z + oc u, (k : Int), by omega, by omega, by go_num, rfl, rfl, hL2.out, by simp [hLl], hts.out, by omega, by omega, HF.out, hown2, ?_⟩
            exact (Below.alloc bel1 bz1 _).grown hg2 (by simp; omega) (fun k hk => (own1.lt k hk).1)
          case measure => simp [intOf]; omega
        · have d9 : decide (f < 0) = false := by simp [hfn]
          have HF : Hid (f = ftGo 0 (L ++ [(3 * (k : Int), u)])) := Lib.hid (by rw [hft.out, ← hf.out]; rw [if_neg hfn])
          clear hft h255 o8
          go_wp2_with (at_builtin; go_must (refine wpList_append1 _ rfl _ _ rfl elemS codedS _ L rfl (own1.alloc _) _ (3 * (k : Int), u) rfl (blk_new (by simp)) (by simp only [maxLen]; omega) (by omega) (by simp; omega) ?_); intro v2 w2 hown2 hg2 hat2)
          go_roundw
          case rel =>
            refine ⟨k + 1, L ++ [(3 * (k : Int), u)], z + oc u, f, by omega, by omega, by go_num, rfl, rfl, hL2.out, by simp [hLl], hts.out, by omega, by omega, HF.out, hown2, ?_⟩
            exact (Below.alloc bel1 bz1 _).grown hg2 (by simp; omega) (fun k hk => (own1.lt k hk).1)
          case measure => simp [intOf]; omega
    · have hge : l.length ≤ k ∨ 40 ≤ k := by omega
      have hkl : k = min l.length 40 := by omega
      have hval : Hid (sl L = (0, 0)) := Lib.hid (by rw [hL.out]; exact mkL_ok _ 0 0 (-1) (by omega) (by simp; omega))
      have hbd : ∀ s ∈ L, 0 ≤ s.2 ∧ s.2 ≤ 255 := by rw [hL.out]; exact mkL_bd _ 0
      have Htot : Hid (totA L = z) := Lib.hid (by rw [totA, hval.out, if_pos rfl, hz.out, totTo, List.take_length]; rfl)
      have Hft : Hid (ftA L = f) := Lib.hid (by rw [ftA, hval.out, if_pos rfl, hf.out])
      have hrd := hown.rd codedS
      clear hx
      by_cases hlt1 : k < l.length
      · have hd1 : decide ((k : Int) < l.length) = true := by simp; omega
        have hd2 : decide ((k : Int) < 40) = false := by simp; omega
        go_wp2_with fail
        refine (Total_any _ L _ hrd (by omega) hbd).mono ?_
        rintro e w1 ⟨rfl, hb1⟩
        rw [Htot.out, hval.out]
        go_wp2_with fail
        refine (First_any _ L _ (hrd.keep hb1) (by omega)).mono ?_
        rintro e w2 ⟨rfl, hb2⟩
        rw [Hft.out, hval.out]
        go_wp2_with fail
        refine (awake_any _).mono ?_
        rintro e w3 ⟨rfl, hb3⟩
        go_wp2
        go_ret
        exact ⟨rfl, b_then (b_then (b_then hbel hb1) hb2) hb3⟩
      · have hd1 : decide ((k : Int) < l.length) = false := by simp; omega
        go_wp2_with fail
        refine (Total_any _ L _ hrd (by omega) hbd).mono ?_
        rintro e w1 ⟨rfl, hb1⟩
        rw [Htot.out, hval.out]
        go_wp2_with fail
        refine (First_any _ L _ (hrd.keep hb1) (by omega)).mono ?_
        rintro e w2 ⟨rfl, hb2⟩
        rw [Hft.out, hval.out]
        go_wp2_with fail
        refine (awake_any _).mono ?_
        rintro e w3 ⟨rfl, hb3⟩
        go_wp2
        go_ret
        exact ⟨rfl, b_then (b_then (b_then hbel hb1) hb2) hb3⟩
end Go.Proofs.Ytimmmhfcfocjdaa.slabTotals
