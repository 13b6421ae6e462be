/- Lists of slabs: CheckList, First, Total on both sides. -/
import Derived.Test.YtimmmhfcfocjdaaSlabE
namespace Go.Proofs.Ytimmmhfcfocjdaa
open Go.RowKit

def encS (x : Int × Int) : List Value := [.int .i64 x.1, .int .u8 x.2]
theorem codedS : Coded encS 2 := ⟨fun _ => rfl, by intro x u hu; simp [encS] at hu; rcases hu with rfl | rfl <;> rfl⟩

def slGo : Nat → Int → List (Int × Int) → Int × Int
  | _, _, [] => (0, 0)
  | i, pv, s :: l => if schk s.1 ≠ 0 then (schk s.1, i) else if s.2 = 0 then (9, i) else if s.1 ≤ pv then (8, i) else slGo (i + 1) s.1 l
/-- what CheckList answers -/
def sl (l : List (Int × Int)) : Int × Int := slGo 0 (-1) l

theorem drop_get {α : Type} (l : List α) (k : Nat) (h : k < l.length) : l.drop k = l[k] :: l.drop (k + 1) := List.drop_eq_getElem_cons h

theorem slGo_bad {i : Nat} {pv : Int} {s : Int × Int} {l : List (Int × Int)} (h : schk s.1 ≠ 0) : slGo i pv (s :: l) = (schk s.1, (i : Int)) := by rw [slGo, if_pos h]
theorem slGo_empty {i : Nat} {pv : Int} {s : Int × Int} {l : List (Int × Int)} (h : schk s.1 = 0) (h' : s.2 = 0) : slGo i pv (s :: l) = (9, (i : Int)) := by rw [slGo, if_neg (by simp [h]), if_pos h']
theorem slGo_over {i : Nat} {pv : Int} {s : Int × Int} {l : List (Int × Int)} (h : schk s.1 = 0) (h' : s.2 ≠ 0) (h'' : s.1 ≤ pv) : slGo i pv (s :: l) = (8, (i : Int)) := by rw [slGo, if_neg (by simp [h]), if_neg h', if_pos h'']
theorem slGo_go {i : Nat} {pv : Int} {s : Int × Int} {l : List (Int × Int)} (h : schk s.1 = 0) (h' : s.2 ≠ 0) (h'' : ¬ s.1 ≤ pv) : slGo i pv (s :: l) = slGo (i + 1) s.1 l := by rw [slGo, if_neg (by simp [h]), if_neg h', if_neg h'']

/-- the frame ahead of number k -/
def pvOf (l : List (Int × Int)) : Nat → Int
  | 0 => -1
  | k + 1 => match l[k]? with | some b => b.1 | none => 0
theorem pvOf_pred (l : List (Int × Int)) (k : Nat) (h0 : 0 < k) (h : k - 1 < l.length) : pvOf l k = (l[k - 1]).1 := by
  obtain ⟨m, rfl⟩ : ∃ m, k = m + 1 := ⟨k - 1, by omega⟩
  simp only [Nat.add_sub_cancel] at h ⊢
  simp [pvOf, h]

theorem sst_one (u : Int) : (sst u == 1) = decide (u = 0) := by
  unfold sst; by_cases h : u = 0
  · simp [h]
  · by_cases h' : u = 255 <;> simp [h, h']

set_option maxHeartbeats 1000000 in
theorem sCheckList_any (v : Value) (l : List (Int × Int)) (w : World) (h : Rd encS 2 w v l) (hl : l.length ≤ 1000000) :
    Calls Try.prog 30 #[v] w fun e w' => e = .returned (.tuple #[.int .i64 (sl l).1, .int .i64 (sl l).2]) ∧ Below w.heap.size w w' := by
  obtain ⟨A, c, rfl, hc, hx⟩ := rd_get h
  clear h
  go_enter Try.func30, Try.ntmps30
  go_wp2
  go_loopw [9] (fun i wr => ∃ (k : Nat), k ≤ l.length ∧ i = .int .i64 k ∧ Hid (sl l = slGo k (pvOf l k) (l.drop k)) ∧ Below w.heap.size w wr) (fun i _ => l.length - (intOf i).toNat)
  case atStart => exact ⟨0, Nat.zero_le _, rfl, rfl, Below.refl _ _⟩
  case round =>
    obtain ⟨k, hk, rfl, hcl, hbel⟩ := hrel
    by_cases hlt : k < l.length
    · obtain ⟨b, off, rfl, hbb, hxx⟩ := hx k hlt
      have hd := drop_get l k hlt
      have p0 := hxx 0 _ rfl
      have p1 := hxx 1 _ rfl
      simp only [Nat.add_zero] at p0
      have q0 : wr.cell? ⟨b, off + k * 2, none⟩ = some (.int .i64 (l[k]).1) := (hbel.cell (p := ⟨b, off + k * 2, none⟩) hbb).trans p0
      have q1 : wr.cell? ⟨b, off + k * 2 + 1, none⟩ = some (.int .u8 (l[k]).2) := (hbel.cell (p := ⟨b, off + k * 2 + 1, none⟩) hbb).trans p1
      have hpv1 : Hid (pvOf l (k + 1) = (l[k]).1) := Lib.hid (pvOf_pred l (k + 1) (by omega) hlt)
      have hbw : b < wr.heap.size := Nat.lt_of_lt_of_le hbb hbel.size
      have hbw1 : b < wr.heap.size + 1 := by omega
      have hbw2 : b < wr.heap.size + 1 + 1 := by omega
      clear p0 p1 hxx
      by_cases hc0 : schk (l[k]).1 = 0
      · have hne : (schk (l[k]).1 != 0) = false := by simp [hc0]
        obtain ⟨b0, b1⟩ := schk_zero hc0
        by_cases hu : (l[k]).2 = 0
        · have E : Hid (sl l = (9, (k : Int))) := Lib.hid (by rw [hcl.out, hd, slGo_empty hc0 hu])
          have hs : (sst (l[k]).2 == 1) = true := by rw [sst_one]; simp [hu]
          clear hd hc0 hu hx
          generalize l[k] = x at *
          obtain ⟨xa, xo⟩ := x
          simp only at *
          go_wp2_with (first | (go_at_call 18; refine (sCheck_any _ _ _).mono ?_; rintro e w' ⟨rfl, rfl⟩) | (go_at_call 37; refine (stateOf_any _ _ _).mono ?_; rintro e w' ⟨rfl, rfl⟩))
          go_ret2
          exact ⟨by rw [E.out]; rfl, (by repeat (first | exact Below.refl _ _ | assumption | apply Below.drew | apply b_drewN | apply b_alloc | (refine Below.setCell ?_ (by (try simp); (try omega)) _) | (refine b_then ?_ (by assumption))))⟩
        · have hs : (sst (l[k]).2 == 1) = false := by rw [sst_one]; simp [hu]
          by_cases hk0 : k = 0
          · subst hk0
            have E : Hid (sl l = slGo (0 + 1) (pvOf l (0 + 1)) (l.drop (0 + 1))) := Lib.hid (by rw [hcl.out, hd, slGo_go hc0 hu (by simp [pvOf]; omega), hpv1.out])
            clear hd hc0 hu hx
            simp only [Nat.zero_mul, Nat.add_zero] at q0 q1
            generalize l[0] = x at *
            obtain ⟨xa, xo⟩ := x
            simp only at *
            go_wp2_with (first | (go_at_call 18; refine (sCheck_any _ _ _).mono ?_; rintro e w' ⟨rfl, rfl⟩) | (go_at_call 37; refine (stateOf_any _ _ _).mono ?_; rintro e w' ⟨rfl, rfl⟩))
            go_quiet (fail)
            go_wp2
            go_roundw
            case rel => exact ⟨1, by omega, rfl, E.out, (by repeat (first | exact Below.refl _ _ | assumption | apply Below.drew | apply b_drewN | apply b_alloc | (refine Below.setCell ?_ (by (try simp); (try omega)) _) | (refine b_then ?_ (by assumption))))⟩
            case measure => simp [intOf]; omega
          · have hkp : 0 < k := by omega
            obtain ⟨b', off', he', hbb', hxx'⟩ := hx (k - 1) (by omega)
            injection he' with he'
            injection he' with e1 e2
            subst e1 e2
            have r0 := hxx' 0 _ rfl
            simp only [Nat.add_zero] at r0
            have s0 : wr.cell? ⟨b, off + (k - 1) * 2, none⟩ = some (.int .i64 (l[k - 1]).1) := (hbel.cell (p := ⟨b, off + (k - 1) * 2, none⟩) hbb).trans r0
            have hpv : pvOf l k = (l[k - 1]).1 := pvOf_pred l k hkp (by omega)
            have hw1 : IntKind.i64.wrap ((k : Int) - 1) = (k : Int) - 1 := IntWalk.i64_in _ (by omega)
            have hgt : decide (0 < (k : Int)) = true := by simp; omega
            have hcast : ((k : Int) - 1).toNat = k - 1 := by omega
            have hlo : 0 ≤ (k : Int) - 1 := by omega
            have hone : 1 ≤ (k : Int) := by omega
            have hhi : (k : Int) - 1 < (l.length : Int) := by omega
            by_cases hp : (l[k]).1 ≤ (l[k - 1]).1
            · have ho' : decide ((l[k]).1 ≤ (l[k - 1]).1) = true := by simp; omega
              have E : Hid (sl l = (8, (k : Int))) := Lib.hid (by rw [hcl.out, hd, slGo_over hc0 hu (by rw [hpv]; exact hp)])
              clear hd hc0 hu hx hpv r0 hxx'
              generalize l[k] = x at *
              generalize l[k - 1] = y at *
              obtain ⟨xa, xo⟩ := x
              obtain ⟨ya, yo⟩ := y
              simp only at *
              go_wp2_with (first | (go_at_call 18; refine (sCheck_any _ _ _).mono ?_; rintro e w' ⟨rfl, rfl⟩) | (go_at_call 37; refine (stateOf_any _ _ _).mono ?_; rintro e w' ⟨rfl, rfl⟩))
              go_quiet (fail)
              go_wp2
              go_ret2
              exact ⟨by rw [E.out]; rfl, (by repeat (first | exact Below.refl _ _ | assumption | apply Below.drew | apply b_drewN | apply b_alloc | (refine Below.setCell ?_ (by (try simp); (try omega)) _) | (refine b_then ?_ (by assumption))))⟩
            · have ho' : decide ((l[k]).1 ≤ (l[k - 1]).1) = false := by simp; omega
              have E : Hid (sl l = slGo (k + 1) (pvOf l (k + 1)) (l.drop (k + 1))) := Lib.hid (by rw [hcl.out, hd, slGo_go hc0 hu (by rw [hpv]; exact hp), hpv1.out])
              clear hd hc0 hu hx hpv r0 hxx'
              generalize l[k] = x at *
              generalize l[k - 1] = y at *
              obtain ⟨xa, xo⟩ := x
              obtain ⟨ya, yo⟩ := y
              simp only at *
              go_wp2_with (first | (go_at_call 18; refine (sCheck_any _ _ _).mono ?_; rintro e w' ⟨rfl, rfl⟩) | (go_at_call 37; refine (stateOf_any _ _ _).mono ?_; rintro e w' ⟨rfl, rfl⟩))
              go_quiet (fail)
              go_wp2
              go_roundw
              case rel => exact ⟨k + 1, by omega, by go_num, E.out, (by repeat (first | exact Below.refl _ _ | assumption | apply Below.drew | apply b_drewN | apply b_alloc | (refine Below.setCell ?_ (by (try simp); (try omega)) _) | (refine b_then ?_ (by assumption))))⟩
              case measure => simp [intOf]; omega
      · have hne : (schk (l[k]).1 != 0) = true := by simp [hc0]
        have E : Hid (sl l = (schk (l[k]).1, (k : Int))) := Lib.hid (by rw [hcl.out, hd, slGo_bad hc0])
        clear hd hc0 hx
        generalize l[k] = x at *
        obtain ⟨xa, xo⟩ := x
        simp only at *
        go_wp2_with (go_at_call 18; refine (sCheck_any _ _ _).mono ?_; rintro e w' ⟨rfl, rfl⟩)
        go_ret2
        exact ⟨by rw [E.out]; rfl, (by repeat (first | exact Below.refl _ _ | assumption | apply Below.drew | apply b_drewN | apply b_alloc | (refine Below.setCell ?_ (by (try simp); (try omega)) _) | (refine b_then ?_ (by assumption))))⟩
    · obtain rfl : k = l.length := by omega
      have E : Hid (sl l = (0, 0)) := Lib.hid (by rw [hcl.out, List.drop_length]; rfl)
      go_wp2
      go_ret2
      exact ⟨by rw [E.out]; rfl, (by repeat (first | exact Below.refl _ _ | assumption | apply Below.drew | apply b_drewN | apply b_alloc | (refine Below.setCell ?_ (by (try simp); (try omega)) _) | (refine b_then ?_ (by assumption))))⟩
theorem schk_two {f : Int} (h : schk f ≠ 0) : schk f = 2 := by
  unfold schk at *; split <;> simp_all

set_option maxHeartbeats 1000000 in
theorem rsCheckList_any (v : Value) (l : List (Int × Int)) (w : World) (h : Rd encS 2 w v l) (hl : l.length ≤ 1000000) :
    Calls Try.prog 31 #[v] w fun e w' => e = .returned (.tuple #[.int .i64 (sl l).1, .int .i64 (sl l).2]) ∧ Below w.heap.size w w' := by
  obtain ⟨A, c, rfl, hc, hx⟩ := rd_get h
  clear h
  go_enter Try.func31, Try.ntmps31
  go_wp2
  go_loopw [4] (fun i wr => ∃ (k : Nat), k ≤ l.length ∧ i = .int .i64 k ∧ Hid (sl l = slGo k (pvOf l k) (l.drop k)) ∧ Below w.heap.size w wr) (fun i _ => l.length - (intOf i).toNat)
  case atStart => exact ⟨0, Nat.zero_le _, rfl, rfl, Below.refl _ _⟩
  case round =>
    obtain ⟨k, hk, rfl, hcl, hbel⟩ := hrel
    by_cases hlt : k < l.length
    · obtain ⟨b, off, rfl, hbb, hxx⟩ := hx k hlt
      have hd := drop_get l k hlt
      have p0 := hxx 0 _ rfl
      have p1 := hxx 1 _ rfl
      simp only [Nat.add_zero] at p0
      have q0 : wr.cell? ⟨b, off + k * 2, none⟩ = some (.int .i64 (l[k]).1) := (hbel.cell (p := ⟨b, off + k * 2, none⟩) hbb).trans p0
      have q1 : wr.cell? ⟨b, off + k * 2 + 1, none⟩ = some (.int .u8 (l[k]).2) := (hbel.cell (p := ⟨b, off + k * 2 + 1, none⟩) hbb).trans p1
      have hpv1 : Hid (pvOf l (k + 1) = (l[k]).1) := Lib.hid (pvOf_pred l (k + 1) (by omega) hlt)
      have hbw : b < wr.heap.size := Nat.lt_of_lt_of_le hbb hbel.size
      have hbw1 : b < wr.heap.size + 1 := by omega
      have hbw2 : b < wr.heap.size + 1 + 1 := by omega
      clear p0 p1 hxx
      by_cases hc0 : schk (l[k]).1 = 0
      · have hne : (schk (l[k]).1 != 0) = false := by simp [hc0]
        obtain ⟨b0, b1⟩ := schk_zero hc0
        by_cases hu : (l[k]).2 = 0
        · have E : Hid (sl l = (9, (k : Int))) := Lib.hid (by rw [hcl.out, hd, slGo_empty hc0 hu])
          have hs : ((l[k]).2 == 0) = true := by simp [hu]
          clear hd hc0 hu hx
          generalize l[k] = x at *
          obtain ⟨xa, xo⟩ := x
          simp only at *
          go_wp2_with (go_at_call 19; refine (rsCheck_any _ _ _).mono ?_; rintro e w' ⟨rfl, rfl⟩)
          go_ret2
          exact ⟨by rw [E.out]; rfl, (by repeat (first | exact Below.refl _ _ | assumption | apply Below.drew | apply b_drewN | apply b_alloc | (refine Below.setCell ?_ (by (try simp); (try omega)) _) | (refine b_then ?_ (by assumption))))⟩
        · have hs : ((l[k]).2 == 0) = false := by simp [hu]
          by_cases hk0 : k = 0
          · subst hk0
            have E : Hid (sl l = slGo (0 + 1) (pvOf l (0 + 1)) (l.drop (0 + 1))) := Lib.hid (by rw [hcl.out, hd, slGo_go hc0 hu (by simp [pvOf]; omega), hpv1.out])
            clear hd hc0 hu hx
            simp only [Nat.zero_mul, Nat.add_zero] at q0 q1
            generalize l[0] = x at *
            obtain ⟨xa, xo⟩ := x
            simp only at *
            go_wp2_with (go_at_call 19; refine (rsCheck_any _ _ _).mono ?_; rintro e w' ⟨rfl, rfl⟩)
            go_quiet (fail)
            go_wp2
            go_roundw
            case rel => exact ⟨1, by omega, rfl, E.out, (by repeat (first | exact Below.refl _ _ | assumption | apply Below.drew | apply b_drewN | apply b_alloc | (refine Below.setCell ?_ (by (try simp); (try omega)) _) | (refine b_then ?_ (by assumption))))⟩
            case measure => simp [intOf]; omega
          · have hkp : 0 < k := by omega
            obtain ⟨b', off', he', hbb', hxx'⟩ := hx (k - 1) (by omega)
            injection he' with he'
            injection he' with e1 e2
            subst e1 e2
            have r0 := hxx' 0 _ rfl
            simp only [Nat.add_zero] at r0
            have s0 : wr.cell? ⟨b, off + (k - 1) * 2, none⟩ = some (.int .i64 (l[k - 1]).1) := (hbel.cell (p := ⟨b, off + (k - 1) * 2, none⟩) hbb).trans r0
            have hpv : pvOf l k = (l[k - 1]).1 := pvOf_pred l k hkp (by omega)
            have hw1 : IntKind.i64.wrap ((k : Int) - 1) = (k : Int) - 1 := IntWalk.i64_in _ (by omega)
            have hgt : decide (0 < (k : Int)) = true := by simp; omega
            have hcast : ((k : Int) - 1).toNat = k - 1 := by omega
            have hlo : 0 ≤ (k : Int) - 1 := by omega
            have hone : 1 ≤ (k : Int) := by omega
            have hhi : (k : Int) - 1 < (l.length : Int) := by omega
            by_cases hp : (l[k]).1 ≤ (l[k - 1]).1
            · have ho' : decide ((l[k]).1 ≤ (l[k - 1]).1) = true := by simp; omega
              have E : Hid (sl l = (8, (k : Int))) := Lib.hid (by rw [hcl.out, hd, slGo_over hc0 hu (by rw [hpv]; exact hp)])
              clear hd hc0 hu hx hpv r0 hxx'
              generalize l[k] = x at *
              generalize l[k - 1] = y at *
              obtain ⟨xa, xo⟩ := x
              obtain ⟨ya, yo⟩ := y
              simp only at *
              go_wp2_with (go_at_call 19; refine (rsCheck_any _ _ _).mono ?_; rintro e w' ⟨rfl, rfl⟩)
              go_quiet (fail)
              go_wp2
              go_ret2
              exact ⟨by rw [E.out]; rfl, (by repeat (first | exact Below.refl _ _ | assumption | apply Below.drew | apply b_drewN | apply b_alloc | (refine Below.setCell ?_ (by (try simp); (try omega)) _) | (refine b_then ?_ (by assumption))))⟩
            · have ho' : decide ((l[k]).1 ≤ (l[k - 1]).1) = false := by simp; omega
              have E : Hid (sl l = slGo (k + 1) (pvOf l (k + 1)) (l.drop (k + 1))) := Lib.hid (by rw [hcl.out, hd, slGo_go hc0 hu (by rw [hpv]; exact hp), hpv1.out])
              clear hd hc0 hu hx hpv r0 hxx'
              generalize l[k] = x at *
              generalize l[k - 1] = y at *
              obtain ⟨xa, xo⟩ := x
              obtain ⟨ya, yo⟩ := y
              simp only at *
              go_wp2_with (go_at_call 19; refine (rsCheck_any _ _ _).mono ?_; rintro e w' ⟨rfl, rfl⟩)
              go_quiet (fail)
              go_wp2
              go_roundw
              case rel => exact ⟨k + 1, by omega, by go_num, E.out, (by repeat (first | exact Below.refl _ _ | assumption | apply Below.drew | apply b_drewN | apply b_alloc | (refine Below.setCell ?_ (by (try simp); (try omega)) _) | (refine b_then ?_ (by assumption))))⟩
              case measure => simp [intOf]; omega
      · have hne : (schk (l[k]).1 != 0) = true := by simp [hc0]
        have E : Hid (sl l = (2, (k : Int))) := Lib.hid (by rw [hcl.out, hd, slGo_bad hc0, schk_two hc0])
        clear hd hc0 hx
        generalize l[k] = x at *
        obtain ⟨xa, xo⟩ := x
        simp only at *
        go_wp2_with (go_at_call 19; refine (rsCheck_any _ _ _).mono ?_; rintro e w' ⟨rfl, rfl⟩)
        go_ret2
        exact ⟨by rw [E.out]; rfl, (by repeat (first | exact Below.refl _ _ | assumption | apply Below.drew | apply b_drewN | apply b_alloc | (refine Below.setCell ?_ (by (try simp); (try omega)) _) | (refine b_then ?_ (by assumption))))⟩
    · obtain rfl : k = l.length := by omega
      have E : Hid (sl l = (0, 0)) := Lib.hid (by rw [hcl.out, List.drop_length]; rfl)
      go_wp2
      go_ret2
      exact ⟨by rw [E.out]; rfl, (by repeat (first | exact Below.refl _ _ | assumption | apply Below.drew | apply b_drewN | apply b_alloc | (refine Below.setCell ?_ (by (try simp); (try omega)) _) | (refine b_then ?_ (by assumption))))⟩
end Go.Proofs.Ytimmmhfcfocjdaa
