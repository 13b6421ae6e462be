/- More of one slab: Free, Objects, Count, State of the reference; Objects and Count of the package where they refuse. -/
import Derived.Test.YtimmmhfcfocjdaaSlabD
import Derived.Deep.DeepMust
set_option linter.unusedSimpArgs false
set_option linter.unusedVariables false
namespace Go.Proofs.Ytimmmhfcfocjdaa
open Go.RowKit Go.Shelf
attribute [local go_sem] Oper.semAt_some

theorem rSplit_ok (o : Int) (w : World) (h0 : 0 ≤ o) (h1 : o < 2048) :
    Calls Try.prog 11 #[.int .i64 o] w fun e w' => e = .returned (.tuple #[.int .i64 (o / 8), .int .i64 (o % 8), .int .i64 0]) ∧ w = w' := by
  have d1 : decide (o < 0) = false := by simp; omega
  go_enter Try.func11, Try.ntmps11
  go_wp2
  go_ret3
  exact ⟨rfl, rfl⟩
theorem rSplit_no (o : Int) (w : World) (h : o < 0 ∨ 2048 ≤ o) :
    Calls Try.prog 11 #[.int .i64 o] w fun e w' => e = .returned (.tuple #[.int .i64 0, .int .i64 0, .int .i64 2]) ∧ w = w' := by
  by_cases h1 : o < 0
  · go_enter Try.func11, Try.ntmps11
    go_wp2
    go_ret3
    exact ⟨rfl, rfl⟩
  · have d1 : decide (o < 0) = false := by simp; omega
    have h2 : 2048 ≤ o := by omega
    go_enter Try.func11, Try.ntmps11
    go_wp2
    go_ret3
    exact ⟨rfl, rfl⟩

set_option maxHeartbeats 1000000 in
theorem rFree_any (f u o : Int) (w : World) (h2 : 0 ≤ u) (h3 : u ≤ 255) :
    Calls Try.prog 24 #[.agg #[.int .i64 f, .int .u8 u], .int .i64 o] w fun e w' => e = .returned (.tuple #[.agg #[.int .i64 (frF f u o), .int .u8 (frU f u o)], .int .i64 (frE f u o)]) ∧ Below w.heap.size w w' := by
  by_cases hc : schk f = 0
  · obtain ⟨h0, h1⟩ := schk_zero hc
    have E1 : (schk f != 0) = false := by simp [hc]
    by_cases ho : o < 0 ∨ 2048 ≤ o
    · have e0 : frE f u o = 2 := by simp [frE, hc, ho]
      have E5 : Hid (frF f u o = 0) := Lib.hid (by simp [frF, e0])
      have E6 : Hid (frU f u o = 0) := Lib.hid (by simp [frU, e0])
      have E4 := Lib.hid e0
      clear hc e0
      go_enter Try.func24, Try.ntmps24
      go_wp2_with (first
        | (go_at_call 19; refine (rsCheck_any _ _ _).mono ?_; rintro e w' ⟨rfl, rfl⟩)
        | (go_at_call 11; refine (rSplit_no _ _ ho).mono ?_; rintro e w' ⟨rfl, rfl⟩))
      rw [E4.out, E5.out, E6.out]
      exact bodyPost_ret (v := .tuple #[.agg #[.int .i64 0, .int .u8 0], .int .i64 2]) (by simp [results, Try.results24, go_sem]) rfl ⟨rfl, (by repeat (first | exact Below.refl _ _ | assumption | apply Below.drew | apply b_drewN | apply b_alloc | (refine Below.setCell ?_ (by (try simp); (try omega)) _) | (refine b_then ?_ (by assumption))))⟩
    · have ho0 : 0 ≤ o := by omega
      have ho1 : o < 2048 := by omega
      have hp0 : 0 ≤ o % 8 := by omega
      have hp1 : o % 8 ≤ 7 := by omega
      by_cases hf : o / 8 = f
      · have hf' : (o / 8 != f) = false := by simp [hf]
        cases hus : usd u (o % 8) with
        | true =>
          have e0 : frE f u o = 0 := by unfold frE; rw [if_neg (by simp [hc]), if_neg ho, if_neg (by simp [hf, hus])]
          have E5 : Hid (frF f u o = f) := Lib.hid (by simp [frF, e0])
          have E6 : Hid (frU f u o = u - 2 ^ (o % 8).toNat) := Lib.hid (by simp [frU, e0])
          have E4 := Lib.hid e0
          have hub := used_bd u (o % 8) h2 h3 hp0 hp1 hus
          have hp := pow8_bd (o % 8) hp0 hp1
          have hw1 : IntKind.u8.wrap (u - 2 ^ (o % 8).toNat) = u - 2 ^ (o % 8).toNat := by simp [IntKind.wrap, IntKind.bits, IntKind.signed]; omega
          have hw4 : IntKind.u8.wrap (2 ^ (o % 8).toNat) = 2 ^ (o % 8).toNat := by simp [IntKind.wrap, IntKind.bits, IntKind.signed]; omega
          have Hf := Lib.hid hf
          clear hc e0 ho hf
          go_enter Try.func24, Try.ntmps24
          go_wp2_with (first
            | (go_at_call 19; refine (rsCheck_any _ _ _).mono ?_; rintro e w' ⟨rfl, rfl⟩)
            | (go_at_call 11; refine (rSplit_ok _ _ ho0 ho1).mono ?_; rintro e w' ⟨rfl, rfl⟩)
            | (go_at_call 41; refine (rused_any _ _ _ _ h2 h3 hp0 hp1).mono ?_; rintro e w' ⟨rfl, rfl⟩))
          rw [E4.out, E5.out, E6.out]
          exact bodyPost_ret (v := .tuple #[.agg #[.int .i64 f, .int .u8 (u - 2 ^ (o % 8).toNat)], .int .i64 0]) (by simp [results, Try.results24, go_sem]) rfl ⟨rfl, (by repeat (first | exact Below.refl _ _ | assumption | apply Below.drew | apply b_drewN | apply b_alloc | (refine Below.setCell ?_ (by (try simp); (try omega)) _) | (refine b_then ?_ (by assumption))))⟩
        | false =>
          have e0 : frE f u o = 6 := by unfold frE; rw [if_neg (by simp [hc]), if_neg ho, if_pos (by simp [hus])]
          have E5 : Hid (frF f u o = 0) := Lib.hid (by simp [frF, e0])
          have E6 : Hid (frU f u o = 0) := Lib.hid (by simp [frU, e0])
          have E4 := Lib.hid e0
          clear hc e0 ho hf
          go_enter Try.func24, Try.ntmps24
          go_wp2_with (first
            | (go_at_call 19; refine (rsCheck_any _ _ _).mono ?_; rintro e w' ⟨rfl, rfl⟩)
            | (go_at_call 11; refine (rSplit_ok _ _ ho0 ho1).mono ?_; rintro e w' ⟨rfl, rfl⟩)
            | (go_at_call 41; refine (rused_any _ _ _ _ h2 h3 hp0 hp1).mono ?_; rintro e w' ⟨rfl, rfl⟩))
          rw [E4.out, E5.out, E6.out]
          exact bodyPost_ret (v := .tuple #[.agg #[.int .i64 0, .int .u8 0], .int .i64 6]) (by simp [results, Try.results24, go_sem]) rfl ⟨rfl, (by repeat (first | exact Below.refl _ _ | assumption | apply Below.drew | apply b_drewN | apply b_alloc | (refine Below.setCell ?_ (by (try simp); (try omega)) _) | (refine b_then ?_ (by assumption))))⟩
      · have hf' : (o / 8 != f) = true := by simp [hf]
        have e0 : frE f u o = 6 := by unfold frE; rw [if_neg (by simp [hc]), if_neg ho, if_pos (.inl hf)]
        have E5 : Hid (frF f u o = 0) := Lib.hid (by simp [frF, e0])
        have E6 : Hid (frU f u o = 0) := Lib.hid (by simp [frU, e0])
        have E4 := Lib.hid e0
        clear hc e0 ho hf
        go_enter Try.func24, Try.ntmps24
        go_wp2_with (first
          | (go_at_call 19; refine (rsCheck_any _ _ _).mono ?_; rintro e w' ⟨rfl, rfl⟩)
          | (go_at_call 11; refine (rSplit_ok _ _ ho0 ho1).mono ?_; rintro e w' ⟨rfl, rfl⟩))
        rw [E4.out, E5.out, E6.out]
        exact bodyPost_ret (v := .tuple #[.agg #[.int .i64 0, .int .u8 0], .int .i64 6]) (by simp [results, Try.results24, go_sem]) rfl ⟨rfl, (by repeat (first | exact Below.refl _ _ | assumption | apply Below.drew | apply b_drewN | apply b_alloc | (refine Below.setCell ?_ (by (try simp); (try omega)) _) | (refine b_then ?_ (by assumption))))⟩
  · have E1 : (schk f != 0) = true := by simp [hc]
    have e0 : frE f u o = schk f := by simp [frE, hc]
    have E5 : Hid (frF f u o = 0) := Lib.hid (by simp [frF, e0, hc])
    have E6 : Hid (frU f u o = 0) := Lib.hid (by simp [frU, e0, hc])
    have E4 := Lib.hid e0
    clear hc e0
    go_enter Try.func24, Try.ntmps24
    go_wp2_with (go_at_call 19; refine (rsCheck_any _ _ _).mono ?_; rintro e w' ⟨rfl, rfl⟩)
    rw [E4.out, E5.out, E6.out]
    exact bodyPost_ret (v := .tuple #[.agg #[.int .i64 0, .int .u8 0], .int .i64 (schk f)]) (by simp [results, Try.results24, go_sem]) rfl ⟨rfl, (by repeat (first | exact Below.refl _ _ | assumption | apply Below.drew | apply b_drewN | apply b_alloc | (refine Below.setCell ?_ (by (try simp); (try omega)) _) | (refine b_then ?_ (by assumption))))⟩

/-- the objects in the first k places -/
def objsTo (f u : Int) (k : Nat) : List Int := (((List.range k).map (fun k : Nat => (k : Int))).filter (usd u)).map fun p => f * 8 + p
theorem objsTo_yes {f u : Int} {k : Nat} (h : usd u (k : Int) = true) : objsTo f u (k + 1) = objsTo f u k ++ [8 * f + (k : Int)] := by
  unfold objsTo
  rw [List.range_succ, List.map_append, List.filter_append, List.map_append]
  simp [h]
  omega
theorem objsTo_no {f u : Int} {k : Nat} (h : usd u (k : Int) = false) : objsTo f u (k + 1) = objsTo f u k := by
  unfold objsTo
  rw [List.range_succ, List.map_append, List.filter_append, List.map_append]
  simp [h]
theorem objsTo_len (f u : Int) (k : Nat) : (objsTo f u k).length ≤ k := by
  unfold objsTo
  have := List.length_filter_le (usd u) ((List.range k).map (fun k : Nat => (k : Int)))
  simpa using this

set_option maxHeartbeats 1000000 in
theorem rObjects_ok (f u : Int) (w : World) (hf0 : 0 ≤ f) (hf1 : f < 256) (h0 : 0 ≤ u) (h1 : u ≤ 255) :
    Calls Try.prog 26 #[.agg #[.int .i64 f, .int .u8 u]] w fun e w' => ∃ v, e = .returned (.tuple #[v, .int .i64 0]) ∧ Rd encI 1 w' v (objs f u) ∧ Below w.heap.size w w' := by
  have E := Lib.hid (schk_ok hf0 hf1)
  go_enter Try.func26, Try.ntmps26
  go_wp2_with fail
  refine (rsCheck_any _ _ _).mono ?_
  rintro e w' ⟨rfl, rfl⟩
  rw [E.out]
  go_wp2_with fail
  go_loopw [5, 6] (fun s i wr => ∃ k : Nat, k ≤ 8 ∧ i = .int .i64 k ∧ Own encI 1 w.heap.size 3 wr s (objsTo f u k) ∧ Blk wr w.heap.size 29 #[.int .i64 f, .int .u8 u] ∧ Below w.heap.size w wr) (fun _ i _ => 8 - (intOf i).toNat)
  case atStart => exact ⟨0, by omega, rfl, Own.nil _, (Blk.new _ _ _).alloc _, (by repeat (first | exact Below.refl _ _ | assumption | apply Below.drew | apply b_drewN | apply b_alloc | (refine Below.setCell ?_ (by (try simp); (try omega)) _) | (refine b_then ?_ (by assumption))))⟩
  case round =>
    obtain ⟨k, hk, rfl, hown, hs, hbel⟩ := hrel
    have c0 : wr.cell? ⟨w.heap.size, 0, none⟩ = some (.int .i64 f) := hs.cell 0
    have c1 : wr.cell? ⟨w.heap.size, 1, none⟩ = some (.int .u8 u) := hs.cell 1
    have l0 := hs.lt
    have hll := objsTo_len f u k
    have hzz := hbel.size
    by_cases hlt : k < 8
    · cases hu : usd u (k : Int) with
      | true =>
        have HY := Lib.hid (objsTo_yes (f := f) hu)
        go_wp2_with (first
          | (go_at_call 41; refine (rused_any _ _ _ _ h0 h1 (by omega) (by omega)).mono ?_; rintro e w' ⟨rfl, rfl⟩)
          | (at_builtin; go_must (refine wpList_append1 _ rfl _ _ rfl elemI codedI _ _ rfl ((hown.alloc _).alloc _) _ (8 * f + (k : Int)) rfl (blk_new (by simp)) (by simp only [maxLen]; omega) (by omega) (by simp; omega) ?_); intro v1 w1 hown1 hg1 hat1))
        go_roundw
        case rel =>
          refine ⟨k + 1, by omega, by go_num, by rw [HY.out]; exact hown1, ((hs.alloc _).alloc _).grown hg1 (fun e => own_blk_ne hown hs (by decide) e.symm), ?_⟩
          exact (Below.alloc (Below.alloc hbel hzz _) (by simp; omega) _).grown hg1 (by simp; omega) (fun k hk => (hown.lt k hk).1)
        case measure => simp [intOf]; omega
      | false =>
        have HY := Lib.hid (objsTo_no (f := f) hu)
        go_wp2_with (go_at_call 41; refine (rused_any _ _ _ _ h0 h1 (by omega) (by omega)).mono ?_; rintro e w' ⟨rfl, rfl⟩)
        go_roundw
        case rel => exact ⟨k + 1, by omega, by go_num, by rw [HY.out]; exact hown.alloc _, hs.alloc _, (by repeat (first | exact Below.refl _ _ | assumption | apply Below.drew | apply b_drewN | apply b_alloc | (refine Below.setCell ?_ (by (try simp); (try omega)) _) | (refine b_then ?_ (by assumption))))⟩
        case measure => simp [intOf]; omega
    · obtain rfl : k = 8 := by omega
      go_wp2
      go_ret2
      exact ⟨_, rfl, hown.rd codedI, hbel⟩

theorem rObjects_no (f u : Int) (w : World) (h : schk f ≠ 0) :
    Calls Try.prog 26 #[.agg #[.int .i64 f, .int .u8 u]] w fun e w' => e = .returned (.tuple #[.slice none 0 0, .int .i64 (schk f)]) ∧ Below w.heap.size w w' := by
  have E1 : (schk f != 0) = true := by simp [h]
  go_enter Try.func26, Try.ntmps26
  go_wp2_with (go_at_call 19; refine (rsCheck_any _ _ _).mono ?_; rintro e w' ⟨rfl, rfl⟩)
  go_ret2
  exact ⟨rfl, (by repeat (first | exact Below.refl _ _ | assumption | apply Below.drew | apply b_drewN | apply b_alloc | (refine Below.setCell ?_ (by (try simp); (try omega)) _) | (refine b_then ?_ (by assumption))))⟩

theorem Objects_no (f u : Int) (w : World) (h : schk f ≠ 0) :
    Calls Try.prog 25 #[.agg #[.int .i64 f, .int .u8 u]] w fun e w' => e = .returned (.tuple #[.slice none 0 0, .int .i64 (schk f)]) ∧ Below w.heap.size w w' := by
  have E1 : (schk f != 0) = true := by simp [h]
  refine (callsIn_wide (n := 5)).1 ?_
  refine callsIn_of_wp_marks Try.func25 rfl trivial ?_ rfl
  simp only [Try.ntmps25, List.size_toArray, List.length_cons, List.length_nil, Nat.reduceAdd, Nat.reduceSub, Array.replicate_succ, Array.replicate_zero, List.push_toArray, List.append_toArray, List.nil_append, List.cons_append]
  gi_wp2
  refine ⟨trivial, (callsIn_wide.2 (sCheck_any _ _ _)).mono ?_⟩
  rintro e w' ⟨rfl, rfl⟩
  gi_wp2
  exact ⟨_, results_tmp2 rfl _ _ _, rfl, (by repeat (first | exact Below.refl _ _ | assumption | apply Below.drew | apply b_drewN | apply b_alloc | (refine Below.setCell ?_ (by (try simp); (try omega)) _) | (refine b_then ?_ (by assumption))))⟩

/-- what Count answers -/
def cnt (f u : Int) : Int := if schk f = 0 then oc u else 0
theorem Count_any (f u : Int) (w : World) (h0 : 0 ≤ u) (h1 : u ≤ 255) :
    Calls Try.prog 20 #[.agg #[.int .i64 f, .int .u8 u]] w fun e w' => e = .returned (.tuple #[.int .i64 (cnt f u), .int .i64 (schk f)]) ∧ Below w.heap.size w w' := by
  by_cases hc : schk f = 0
  · have E1 : (schk f != 0) = false := by simp [hc]
    have E2 : Hid (cnt f u = oc u) := Lib.hid (by simp [cnt, hc])
    have E3 := Lib.hid hc
    clear hc
    go_enter Try.func20, Try.ntmps20
    go_wp2_with (first
      | (go_at_call 18; refine (sCheck_any _ _ _).mono ?_; rintro e w' ⟨rfl, rfl⟩)
      | (go_at_call 40; refine (bits_OnesCount8 _ _ h0 h1).mono ?_; rintro e w' ⟨rfl, rfl⟩))
    go_ret2
    exact ⟨by rw [E2.out, E3.out]; rfl, (by repeat (first | exact Below.refl _ _ | assumption | apply Below.drew | apply b_drewN | apply b_alloc | (refine Below.setCell ?_ (by (try simp); (try omega)) _) | (refine b_then ?_ (by assumption))))⟩
  · have E1 : (schk f != 0) = true := by simp [hc]
    have E2 : Hid (cnt f u = 0) := Lib.hid (by simp [cnt, hc])
    clear hc
    go_enter Try.func20, Try.ntmps20
    go_wp2_with (go_at_call 18; refine (sCheck_any _ _ _).mono ?_; rintro e w' ⟨rfl, rfl⟩)
    go_ret2
    exact ⟨by rw [E2.out]; rfl, (by repeat (first | exact Below.refl _ _ | assumption | apply Below.drew | apply b_drewN | apply b_alloc | (refine Below.setCell ?_ (by (try simp); (try omega)) _) | (refine b_then ?_ (by assumption))))⟩

theorem rCount_any (f u : Int) (w : World) (h0 : 0 ≤ u) (h1 : u ≤ 255) :
    Calls Try.prog 21 #[.agg #[.int .i64 f, .int .u8 u]] w fun e w' => e = .returned (.tuple #[.int .i64 (cnt f u), .int .i64 (schk f)]) ∧ Below w.heap.size w w' := by
  by_cases hc : schk f = 0
  · obtain ⟨g0, g1⟩ := schk_zero hc
    have E2 : Hid (((objs f u).length : Int) = cnt f u) := Lib.hid (by rw [objs, List.length_map, plcs_len u h0 h1]; simp [cnt, hc])
    have E3 := Lib.hid hc
    clear hc
    go_enter Try.func21, Try.ntmps21
    go_wp2_with fail
    refine (rObjects_ok f u _ g0 g1 h0 h1).mono ?_
    rintro e w1 ⟨v, rfl, ⟨A, c, rfl, _, _⟩, hb1⟩
    go_wp2
    go_ret2
    exact ⟨by rw [← E2.out, E3.out]; rfl, (by repeat (first | exact Below.refl _ _ | assumption | apply Below.drew | apply b_drewN | apply b_alloc | (refine Below.setCell ?_ (by (try simp); (try omega)) _) | (refine b_then ?_ (by assumption))))⟩
  · have E2 : Hid (cnt f u = 0) := Lib.hid (by simp [cnt, hc])
    go_enter Try.func21, Try.ntmps21
    go_wp2_with fail
    refine (rObjects_no f u _ hc).mono ?_
    rintro e w1 ⟨rfl, hb1⟩
    go_wp2
    go_ret2
    exact ⟨by rw [E2.out]; rfl, (by repeat (first | exact Below.refl _ _ | assumption | apply Below.drew | apply b_drewN | apply b_alloc | (refine Below.setCell ?_ (by (try simp); (try omega)) _) | (refine b_then ?_ (by assumption))))⟩

theorem oc_zero (u : Int) (h0 : 0 ≤ u) (h1 : u ≤ 255) : (oc u == 0) = decide (u = 0) ∧ (oc u == 8) = decide (u = 255) ∧ 0 ≤ oc u ∧ oc u ≤ 8 :=
  of_fin (Q := fun u => (oc u == 0) = decide (u = 0) ∧ (oc u == 8) = decide (u = 255) ∧ 0 ≤ oc u ∧ oc u ≤ 8) (by decide +kernel) u h0 h1

theorem rState_any (f u : Int) (w : World) (h0 : 0 ≤ u) (h1 : u ≤ 255) :
    Calls Try.prog 17 #[.agg #[.int .i64 f, .int .u8 u]] w fun e w' => e = .returned (.tuple #[.int .i64 (stA f u), .int .i64 (schk f)]) ∧ Below w.heap.size w w' := by
  by_cases hc : schk f = 0
  · obtain ⟨o0, o8, _, _⟩ := oc_zero u h0 h1
    have E : Hid (cnt f u = oc u) := Lib.hid (by simp [cnt, hc])
    have E3 := Lib.hid hc
    have E4 : Hid (stA f u = sst u) := Lib.hid (by simp [stA, hc])
    clear hc
    by_cases hz : u = 0
    · have d0 : (oc u == 0) = true := by rw [o0]; simp [hz]
      have E5 : Hid (sst u = 1) := Lib.hid (by simp [sst, hz])
      clear o0 o8 hz
      go_enter Try.func17, Try.ntmps17
      go_wp2_with fail
      refine (rCount_any f u _ h0 h1).mono ?_
      rintro e w1 ⟨rfl, hb1⟩
      rw [E.out, E3.out]
      go_wp2
      go_ret2
      exact ⟨by rw [E4.out, E5.out, E3.out]; rfl, (by repeat (first | exact Below.refl _ _ | assumption | apply Below.drew | apply b_drewN | apply b_alloc | (refine Below.setCell ?_ (by (try simp); (try omega)) _) | (refine b_then ?_ (by assumption))))⟩
    · have d0 : (oc u == 0) = false := by rw [o0]; simp [hz]
      by_cases hf : u = 255
      · have d1 : (oc u == 8) = true := by rw [o8]; simp [hf]
        have E5 : Hid (sst u = 3) := Lib.hid (by simp [sst, hf])
        clear o0 o8 hz hf
        go_enter Try.func17, Try.ntmps17
        go_wp2_with fail
        refine (rCount_any f u _ h0 h1).mono ?_
        rintro e w1 ⟨rfl, hb1⟩
        rw [E.out, E3.out]
        go_wp2
        go_ret2
        exact ⟨by rw [E4.out, E5.out, E3.out]; rfl, (by repeat (first | exact Below.refl _ _ | assumption | apply Below.drew | apply b_drewN | apply b_alloc | (refine Below.setCell ?_ (by (try simp); (try omega)) _) | (refine b_then ?_ (by assumption))))⟩
      · have d1 : (oc u == 8) = false := by rw [o8]; simp [hf]
        have E5 : Hid (sst u = 2) := Lib.hid (by simp [sst, hz, hf])
        clear o0 o8 hz hf
        go_enter Try.func17, Try.ntmps17
        go_wp2_with fail
        refine (rCount_any f u _ h0 h1).mono ?_
        rintro e w1 ⟨rfl, hb1⟩
        rw [E.out, E3.out]
        go_wp2
        go_ret2
        exact ⟨by rw [E4.out, E5.out, E3.out]; rfl, (by repeat (first | exact Below.refl _ _ | assumption | apply Below.drew | apply b_drewN | apply b_alloc | (refine Below.setCell ?_ (by (try simp); (try omega)) _) | (refine b_then ?_ (by assumption))))⟩
  · have E1 : (schk f != 0) = true := by simp [hc]
    have E2 : Hid (stA f u = 0) := Lib.hid (by simp [stA, hc])
    go_enter Try.func17, Try.ntmps17
    go_wp2_with fail
    refine (rCount_any f u _ h0 h1).mono ?_
    rintro e w1 ⟨rfl, hb1⟩
    go_wp2
    go_ret2
    exact ⟨by rw [E2.out]; rfl, (by repeat (first | exact Below.refl _ _ | assumption | apply Below.drew | apply b_drewN | apply b_alloc | (refine Below.setCell ?_ (by (try simp); (try omega)) _) | (refine b_then ?_ (by assumption))))⟩
end Go.Proofs.Ytimmmhfcfocjdaa
