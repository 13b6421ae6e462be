/- CheckList on both sides. -/
import Derived.Test.YtdgeahemjcopkaaOrdD
import Derived.Test.YtdgeahemjcopkaaInts
set_option linter.unusedSimpArgs false
set_option linter.unusedVariables false
namespace Go.Proofs.Ytdgeahemjcopkaa
open Go.RowKit

def clGo : Nat → Int → List (Int × Int) → Int × Int
  | _, _, [] => (0, 0)
  | i, en, b :: l => if chk b.1 b.2 ≠ 0 then (chk b.1 b.2, i) else if b.1 < en then (8, i) else clGo (i + 1) (b.1 + 2 ^ b.2.toNat) l
/-- what CheckList answers -/
def cl (l : List (Int × Int)) : Int × Int := clGo 0 0 l

theorem drop_get {α : Type} (l : List α) (k : Nat) (h : k < l.length) : l.drop k = l[k] :: l.drop (k + 1) := List.drop_eq_getElem_cons h

theorem clGo_bad {i : Nat} {en : Int} {b : Int × Int} {l : List (Int × Int)} (h : chk b.1 b.2 ≠ 0) : clGo i en (b :: l) = (chk b.1 b.2, (i : Int)) := by rw [clGo, if_pos h]
theorem clGo_over {i : Nat} {en : Int} {b : Int × Int} {l : List (Int × Int)} (h : chk b.1 b.2 = 0) (h' : b.1 < en) : clGo i en (b :: l) = (8, (i : Int)) := by rw [clGo, if_neg (by simp [h]), if_pos h']
theorem clGo_go {i : Nat} {en : Int} {b : Int × Int} {l : List (Int × Int)} (h : chk b.1 b.2 = 0) (h' : ¬ b.1 < en) : clGo i en (b :: l) = clGo (i + 1) (b.1 + 2 ^ b.2.toNat) l := by rw [clGo, if_neg (by simp [h]), if_neg h']

theorem CheckList_any (v : Value) (l : List (Int × Int)) (w : World) (h : Rd encB 2 w v l) (hl : l.length ≤ 1000000) (hb : ∀ b ∈ l, b.1 ≤ 9223372036854775807) :
    Calls Try.prog 31 #[v] w fun e w' => e = .returned (.tuple #[.int .i64 (cl l).1, .int .i64 (cl l).2]) ∧ Below w.heap.size w w' := by
  obtain ⟨A, c, rfl, hc, hx⟩ := rd_get h
  clear h
  go_enter Try.func31, Try.ntmps31
  go_wp2
  go_loopw [4, 10] (fun en i wr => ∃ (k : Nat) (z : Int), k ≤ l.length ∧ i = .int .i64 k ∧ en = .int .i64 z ∧ 0 ≤ z ∧ z ≤ 256 ∧ Hid (cl l = clGo k z (l.drop k)) ∧ Below w.heap.size w wr) (fun _ i _ => l.length - (intOf i).toNat)
  case atStart => exact ⟨0, 0, Nat.zero_le _, rfl, rfl, by omega, by omega, rfl, Below.refl _ _⟩
  case round =>
    obtain ⟨k, z, hk, rfl, rfl, hz0, hz1, hcl, hbel⟩ := hrel
    by_cases hlt : k < l.length
    · obtain ⟨b, off, rfl, hbb, hxx⟩ := hx k hlt
      have hd := drop_get l k hlt
      have hbd := hb l[k] (List.getElem_mem hlt)
      have p0 := hxx 0 _ rfl
      have p1 := hxx 1 _ rfl
      simp only [Nat.add_zero] at p0
      have q0 : wr.cell? ⟨b, off + k * 2, none⟩ = some (.int .i64 (l[k]).1) := (hbel.cell (p := ⟨b, off + k * 2, none⟩) hbb).trans p0
      have q1 : wr.cell? ⟨b, off + k * 2 + 1, none⟩ = some (.int .i64 (l[k]).2) := (hbel.cell (p := ⟨b, off + k * 2 + 1, none⟩) hbb).trans p1
      clear p0 p1 hxx hx
      generalize l[k] = x at *
      obtain ⟨xa, xo⟩ := x
      simp only at *
      by_cases hc0 : chk xa xo = 0
      · obtain ⟨b0, b1, b2, b3, b4⟩ := chk_zero hc0
        have hp := pow_bd xo b0 b1
        have hne : (chk xa xo != 0) = false := by simp [hc0]
        have hw : IntKind.i64.wrap (xa + 2 ^ xo.toNat) = xa + 2 ^ xo.toNat := IntWalk.i64_in _ (by omega)
        by_cases ho : xa < z
        · have E : Hid (cl l = (8, (k : Int))) := Lib.hid (by rw [hcl.out, hd, clGo_over hc0 ho])
          clear hd hc0 b3
          go_wp2_with (go_at_call 19; refine (Check_any _ _ _ hbd).mono ?_; rintro e w' ⟨rfl, rfl⟩)
          go_ret2
          exact ⟨by rw [E.out]; rfl, (by repeat (first | exact Below.refl _ _ | assumption | apply Below.drew | apply b_drewN | apply b_alloc | (refine Below.setCell ?_ (by (try simp); (try omega)) _) | (refine b_then ?_ (by assumption))))⟩
        · have E : Hid (cl l = clGo (k + 1) (xa + 2 ^ xo.toNat) (l.drop (k + 1))) := Lib.hid (by rw [hcl.out, hd, clGo_go hc0 ho])
          clear hd hc0 b3
          go_wp2_with (go_at_call 19; refine (Check_any _ _ _ hbd).mono ?_; rintro e w' ⟨rfl, rfl⟩)
          go_region_held3 (fun V => V.cell? ⟨wr.heap.size, 0, none⟩ = some (.int .i64 xa) ∧ V.cell? ⟨wr.heap.size, 1, none⟩ = some (.int .i64 xo)) (go_keep)
            (first | (go_at_call 38; refine (sizeOf_any _ _ _ b0 b1).mono ?_; rintro e w' ⟨rfl, rfl⟩))
          go_wp2
          go_roundw
          case rel => exact ⟨k + 1, xa + 2 ^ xo.toNat, by omega, by go_num, rfl, by omega, by omega, E.out, (by repeat (first | exact Below.refl _ _ | assumption | apply Below.drew | apply b_drewN | apply b_alloc | (refine Below.setCell ?_ (by (try simp); (try omega)) _) | (refine b_then ?_ (by assumption))))⟩
          case measure => simp [intOf]; omega
      · have hne : (chk xa xo != 0) = true := by simp [hc0]
        have E : Hid (cl l = (chk xa xo, (k : Int))) := Lib.hid (by rw [hcl.out, hd, clGo_bad hc0])
        clear hd hc0
        go_wp2_with (go_at_call 19; refine (Check_any _ _ _ hbd).mono ?_; rintro e w' ⟨rfl, rfl⟩)
        go_ret2
        exact ⟨by rw [E.out]; rfl, (by repeat (first | exact Below.refl _ _ | assumption | apply Below.drew | apply b_drewN | apply b_alloc | (refine Below.setCell ?_ (by (try simp); (try omega)) _) | (refine b_then ?_ (by assumption))))⟩
    · obtain rfl : k = l.length := by omega
      have E : Hid (cl l = (0, 0)) := Lib.hid (by rw [hcl.out, List.drop_length]; rfl)
      go_wp2
      go_ret2
      exact ⟨by rw [E.out]; rfl, (by repeat (first | exact Below.refl _ _ | assumption | apply Below.drew | apply b_drewN | apply b_alloc | (refine Below.setCell ?_ (by (try simp); (try omega)) _) | (refine b_then ?_ (by assumption))))⟩

/-- where the block ahead of number k ends -/
def enOf (l : List (Int × Int)) : Nat → Int
  | 0 => 0
  | k + 1 => match l[k]? with | some b => b.1 + 2 ^ b.2.toNat | none => 0

theorem rCheckList_any (v : Value) (l : List (Int × Int)) (w : World) (h : Rd encB 2 w v l) (hl : l.length ≤ 1000000) :
    Calls Try.prog 32 #[v] w fun e w' => e = .returned (.tuple #[.int .i64 (cl l).1, .int .i64 (cl l).2]) ∧ Below w.heap.size w w' := by
  obtain ⟨A, c, rfl, hc, hx⟩ := rd_get h
  clear h
  go_enter Try.func32, Try.ntmps32
  go_wp2
  go_loopw [4] (fun i wr => ∃ (k : Nat), k ≤ l.length ∧ i = .int .i64 k ∧ Hid (cl l = clGo k (enOf l k) (l.drop k)) ∧ Hid (∀ j (hj : j < k) (hjl : j < l.length), chk (l[j]).1 (l[j]).2 = 0) ∧ Below w.heap.size w wr) (fun i _ => l.length - (intOf i).toNat)
  case atStart => exact ⟨0, Nat.zero_le _, rfl, rfl, fun j hj => absurd hj (by omega), Below.refl _ _⟩
  case round =>
    obtain ⟨k, hk, rfl, hcl, hall, hbel⟩ := hrel
    by_cases hlt : k < l.length
    · obtain ⟨b, off, rfl, hbb, hxx⟩ := hx k hlt
      have hd := drop_get l k hlt
      have p0 := hxx 0 _ rfl
      have p1 := hxx 1 _ rfl
      simp only [Nat.add_zero] at p0
      have q0 : wr.cell? ⟨b, off + k * 2, none⟩ = some (.int .i64 (l[k]).1) := (hbel.cell (p := ⟨b, off + k * 2, none⟩) hbb).trans p0
      have q1 : wr.cell? ⟨b, off + k * 2 + 1, none⟩ = some (.int .i64 (l[k]).2) := (hbel.cell (p := ⟨b, off + k * 2 + 1, none⟩) hbb).trans p1
      have hen1 : Hid (enOf l (k + 1) = (l[k]).1 + 2 ^ (l[k]).2.toNat) := Lib.hid (by simp [enOf, hlt])
      have hall1 : Hid (chk (l[k]).1 (l[k]).2 = 0 → ∀ j (hj : j < k + 1) (hjl : j < l.length), chk (l[j]).1 (l[j]).2 = 0) := Lib.hid (fun h0 j hj hjl => by
        by_cases e : j = k
        · subst e; exact h0
        · exact hall.out j (by omega) hjl)
      have hbw : b < wr.heap.size := Nat.lt_of_lt_of_le hbb hbel.size
      clear p0 p1 hxx
      by_cases hc0 : chk (l[k]).1 (l[k]).2 = 0
      · have hall2 := Lib.hid (hall1.out hc0)
        obtain ⟨b0, b1, b2, b3, b4⟩ := chk_zero hc0
        have hp := pow_bd _ b0 b1
        have hne : (chk (l[k]).1 (l[k]).2 != 0) = false := by simp [hc0]
        have heq : (chk (l[k]).1 (l[k]).2 == 0) = true := by simp [hc0]
        by_cases hk0 : k = 0
        · subst hk0
          have hno : ¬ (l[0]).1 < enOf l 0 := by simp [enOf]; omega
          have E : Hid (cl l = clGo (0 + 1) (enOf l (0 + 1)) (l.drop (0 + 1))) := Lib.hid (by rw [hcl.out, hd, clGo_go hc0 hno, hen1.out])
          clear hd hc0 b3 hno hx
          simp only [Nat.zero_mul, Nat.add_zero] at q0 q1
          generalize l[0] = x at *
          obtain ⟨xa, xo⟩ := x
          simp only at *
          go_wp2_with (go_at_call 20; refine (rCheck_any _ _ _).mono ?_; rintro e w' ⟨rfl, n, rfl⟩)
          go_quiet (fail)
          go_wp2
          go_roundw
          case rel => exact ⟨1, by omega, rfl, E.out, hall2.out, (by repeat (first | exact Below.refl _ _ | assumption | apply Below.drew | apply b_drewN | apply b_alloc | (refine Below.setCell ?_ (by (try simp); (try omega)) _) | (refine b_then ?_ (by assumption))))⟩
          case measure => simp [intOf]; omega
        · have hkp : 0 < k := by omega
          obtain ⟨b', off', he', hbb', hxx'⟩ := hx (k - 1) (by omega)
          injection he' with he'
          injection he' with e1 e2
          subst e1 e2
          have r0 := hxx' 0 _ rfl
          have r1 := hxx' 1 _ rfl
          simp only [Nat.add_zero] at r0
          have s0 : wr.cell? ⟨b, off + (k - 1) * 2, none⟩ = some (.int .i64 (l[k - 1]).1) := (hbel.cell (p := ⟨b, off + (k - 1) * 2, none⟩) hbb).trans r0
          have s1 : wr.cell? ⟨b, off + (k - 1) * 2 + 1, none⟩ = some (.int .i64 (l[k - 1]).2) := (hbel.cell (p := ⟨b, off + (k - 1) * 2 + 1, none⟩) hbb).trans r1
          have hprev := hall.out (k - 1) (by omega) (by omega)
          obtain ⟨a0, a1, a2, a3, a4⟩ := chk_zero hprev
          have hp' := pow_bd _ a0 a1
          have hen : Hid (enOf l k = (l[k - 1]).1 + 2 ^ (l[k - 1]).2.toNat) := Lib.hid (by
            obtain ⟨m, rfl⟩ : ∃ m, k = m + 1 := ⟨k - 1, by omega⟩
            simp [enOf, show m < l.length by omega])
          have hw : IntKind.i64.wrap ((l[k - 1]).1 + 2 ^ (l[k - 1]).2.toNat) = (l[k - 1]).1 + 2 ^ (l[k - 1]).2.toNat := IntWalk.i64_in _ (by omega)
          have hw1 : IntKind.i64.wrap ((k : Int) - 1) = (k : Int) - 1 := IntWalk.i64_in _ (by omega)
          have hgt : decide (0 < (k : Int)) = true := by simp; omega
          have hcast : ((k : Int) - 1).toNat = k - 1 := by omega
          have hlo : 0 ≤ (k : Int) - 1 := by omega
          have hhi : (k : Int) - 1 < (l.length : Int) := by omega
          clear r0 r1 hxx' a3
          by_cases ho : (l[k]).1 < (l[k - 1]).1 + 2 ^ (l[k - 1]).2.toNat
          · have E : Hid (cl l = (8, (k : Int))) := Lib.hid (by rw [hcl.out, hd, clGo_over hc0 (by rw [hen.out]; exact ho)])
            clear hd hc0 b3 hprev hx
            generalize l[k] = x at *
            generalize l[k - 1] = y at *
            obtain ⟨xa, xo⟩ := x
            obtain ⟨ya, yo⟩ := y
            simp only at *
            go_wp2_with (go_at_call 20; refine (rCheck_any _ _ _).mono ?_; rintro e w' ⟨rfl, n, rfl⟩)
            go_quiet ((go_at_call 39; exact quiet_add_left (rsize_any _ _ a0 a1)))
            go_wp2
            go_ret2
            exact ⟨by rw [E.out]; rfl, (by repeat (first | exact Below.refl _ _ | assumption | apply Below.drew | apply b_drewN | apply b_alloc | (refine Below.setCell ?_ (by (try simp); (try omega)) _) | (refine b_then ?_ (by assumption))))⟩
          · have E : Hid (cl l = clGo (k + 1) (enOf l (k + 1)) (l.drop (k + 1))) := Lib.hid (by rw [hcl.out, hd, clGo_go hc0 (by rw [hen.out]; exact ho), hen1.out])
            have ho' : decide ((l[k]).1 < (l[k - 1]).1 + 2 ^ (l[k - 1]).2.toNat) = false := by simp; omega
            clear hd hc0 b3 hprev hx
            generalize l[k] = x at *
            generalize l[k - 1] = y at *
            obtain ⟨xa, xo⟩ := x
            obtain ⟨ya, yo⟩ := y
            simp only at *
            go_wp2_with (go_at_call 20; refine (rCheck_any _ _ _).mono ?_; rintro e w' ⟨rfl, n, rfl⟩)
            go_quiet ((go_at_call 39; exact quiet_add_left (rsize_any _ _ a0 a1)))
            go_wp2
            go_roundw
            case rel => exact ⟨k + 1, by omega, by go_num, E.out, hall2.out, (by repeat (first | exact Below.refl _ _ | assumption | apply Below.drew | apply b_drewN | apply b_alloc | (refine Below.setCell ?_ (by (try simp); (try omega)) _) | (refine b_then ?_ (by assumption))))⟩
            case measure => simp [intOf]; omega
      · have hne : (chk (l[k]).1 (l[k]).2 != 0) = true := by simp [hc0]
        have heq : (chk (l[k]).1 (l[k]).2 == 0) = false := by simp [hc0]
        have E : Hid (cl l = (chk (l[k]).1 (l[k]).2, (k : Int))) := Lib.hid (by rw [hcl.out, hd, clGo_bad hc0])
        clear hd hc0 hx
        generalize l[k] = x at *
        obtain ⟨xa, xo⟩ := x
        simp only at *
        go_wp2_with (go_at_call 20; refine (rCheck_any _ _ _).mono ?_; rintro e w' ⟨rfl, n, rfl⟩)
        go_quiet (fail)
        go_wp2
        go_ret2
        exact ⟨by rw [E.out]; rfl, (by repeat (first | exact Below.refl _ _ | assumption | apply Below.drew | apply b_drewN | apply b_alloc | (refine Below.setCell ?_ (by (try simp); (try omega)) _) | (refine b_then ?_ (by assumption))))⟩
    · obtain rfl : k = l.length := by omega
      have E : Hid (cl l = (0, 0)) := Lib.hid (by rw [hcl.out, List.drop_length]; rfl)
      go_wp2
      go_ret2
      exact ⟨by rw [E.out]; rfl, (by repeat (first | exact Below.refl _ _ | assumption | apply Below.drew | apply b_drewN | apply b_alloc | (refine Below.setCell ?_ (by (try simp); (try omega)) _) | (refine b_then ?_ (by assumption))))⟩
end Go.Proofs.Ytdgeahemjcopkaa
