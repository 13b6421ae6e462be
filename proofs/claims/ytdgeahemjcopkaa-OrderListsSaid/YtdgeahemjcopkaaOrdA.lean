/- Contracts of the small functions of package order, of the reference's and of the law's helpers over blocks. -/
import Derived.Test.YtdgeahemjcopkaaRows
import Derived.Test.YtdgeahemjcopkaaLib
import Derived.Test.YtdgeahemjcopkaaBits
import Derived.Outline
import Derived.Deep.QuietTactic
import Derived.BigQuiet
import Derived.Deep.RegionHeld3
set_option linter.unusedSimpArgs false
set_option linter.unusedVariables false
namespace Go.Proofs.Ytdgeahemjcopkaa
open Go.RowKit

def encB (b : Int × Int) : List Value := [.int .i64 b.1, .int .i64 b.2]
theorem encB_len (b : Int × Int) : (encB b).length = 2 := rfl

theorem same_true (v1 v2 : Value) (l : List (Int × Int)) (w : World) (h1 : Rd encB 2 w v1 l) (h2 : Rd encB 2 w v2 l) (hl : l.length ≤ 9223372036854775807) :
    Calls Try.prog 13 #[v1, v2] w fun e w' => e = .returned (.bool true) ∧ ∃ n, w' = w.drewN n := by
  obtain ⟨A1, c1, rfl, hc1, h1⟩ := h1
  obtain ⟨A2, c2, rfl, hc2, h2⟩ := h2
  go_enter Try.func13, Try.ntmps13
  go_wp2
  go_loopw [5] (fun i wr => ∃ k n : Nat, k ≤ l.length ∧ i = .int .i64 k ∧ wr = w.drewN n) (fun i _ => l.length - (intOf i).toNat)
  case atStart => exact ⟨0, 0, Nat.zero_le _, rfl, rfl⟩
  case round =>
    obtain ⟨k, n, hk, rfl, rfl⟩ := hrel
    by_cases hlt : k < l.length
    · obtain ⟨b1, o1, rfl, hb1, hx1⟩ := h1 (by omega)
      obtain ⟨b2, o2, rfl, hb2, hx2⟩ := h2 (by omega)
      have e : l[k]? = some l[k] := List.getElem?_eq_getElem hlt
      have p0 := hx1 k _ e 0 _ rfl
      have p1 := hx1 k _ e 1 _ rfl
      have q0 := hx2 k _ e 0 _ rfl
      have q1 := hx2 k _ e 1 _ rfl
      clear hx1 hx2 e h1 h2
      generalize l[k] = x at *
      simp only [Nat.add_zero] at p0 q0
      go_wp2
      go_quiet (fail)
      go_wp2
      go_roundw
      case rel => exact ⟨k + 1, n + nq, by omega, by go_num, by simp⟩
      case measure => simp [intOf]; omega
    · go_wp2
      go_ret
      exact ⟨rfl, n, rfl⟩

theorem sizeOf_any (a o : Int) (w : World) (h0 : 0 ≤ o) (h1 : o ≤ 6) :
    Calls Try.prog 38 #[.agg #[.int .i64 a, .int .i64 o]] w fun e w' => e = .returned (.int .i64 (2 ^ o.toNat)) ∧ w.alloc (.cells #[.int .i64 a, .int .i64 o] 30) = w' := by
  have hp := pow_bd o h0 h1
  go_enter Try.func38, Try.ntmps38
  go_wp2
  go_ret
  exact ⟨rfl, rfl⟩

theorem b_any (a o : Int) (w : World) :
    Calls Try.prog 22 #[.int .i64 a, .int .i64 o] w fun e w' => e = .returned (.agg #[.int .i64 a, .int .i64 o]) ∧ w.alloc (.cells #[.int .i64 a, .int .i64 o] 30) = w' := by
  go_enter Try.func22, Try.ntmps22
  go_wp2
  exact bodyPost_ret (v := .agg #[.int .i64 a, .int .i64 o]) (by simp [results, Try.results22, go_sem]) rfl ⟨rfl, rfl⟩

theorem Size_ok (o : Int) (w : World) (h0 : 0 ≤ o) (h1 : o ≤ 6) :
    Calls Try.prog 29 #[.int .i64 o] w fun e w' => e = .returned (.tuple #[.int .i64 (2 ^ o.toNat), .int .i64 0]) ∧ w = w' := by
  have hp := pow_bd o h0 h1
  go_enter Try.func29, Try.ntmps29
  go_wp2
  go_ret2
  exact ⟨rfl, rfl⟩

theorem Size_no (o : Int) (w : World) (h : o < 0 ∨ 6 < o) :
    Calls Try.prog 29 #[.int .i64 o] w fun e w' => e = .returned (.tuple #[.int .i64 0, .int .i64 2]) ∧ w = w' := by
  rcases h with h | h
  all_goals
    go_enter Try.func29, Try.ntmps29
    go_wp2
    go_ret2
    exact ⟨rfl, rfl⟩

theorem buddyOf_any (a o : Int) (w : World) (h0 : 0 ≤ o) (h1 : o ≤ 6) :
    Calls Try.prog 41 #[.agg #[.int .i64 a, .int .i64 o]] w fun e w' => e = .returned (.agg #[.int .i64 (bits .xor .i64 a (2 ^ o.toNat)), .int .i64 o]) ∧ Below w.heap.size w w' := by
  have hp := pow_bd o h0 h1
  go_enter Try.func41, Try.ntmps41
  go_wp2
  go_region_held3 (fun w' => w'.cell? ⟨w.heap.size, 0, none⟩ = some (.int .i64 a) ∧ w'.cell? ⟨w.heap.size, 1, none⟩ = some (.int .i64 o)) (go_keep)
    (first | (go_at_call 38; refine (sizeOf_any _ _ _ h0 h1).mono ?_; rintro e w' ⟨rfl, rfl⟩))
  go_wp2
  exact bodyPost_ret (v := .agg #[.int .i64 (bits .xor .i64 a (2 ^ o.toNat)), .int .i64 o]) (by simp [results, Try.results41, go_sem]) rfl ⟨rfl, (by repeat (first | exact Below.refl _ _ | assumption | apply Below.drew | apply b_drewN | apply b_alloc | (refine Below.setCell ?_ (by (try simp); (try omega)) _) | (refine b_then ?_ (by assumption))))⟩

theorem parentOf_any (a o : Int) (w : World) (h0 : 0 ≤ o) (h1 : o ≤ 6) :
    Calls Try.prog 43 #[.agg #[.int .i64 a, .int .i64 o]] w fun e w' => e = .returned (.agg #[.int .i64 (bits .andNot .i64 a (2 ^ o.toNat)), .int .i64 (o + 1)]) ∧ Below w.heap.size w w' := by
  have hp := pow_bd o h0 h1
  have hw1 : IntKind.i64.wrap (o + 1) = o + 1 := IntWalk.i64_in _ (by omega)
  go_enter Try.func43, Try.ntmps43
  go_wp2
  go_region_held3 (fun w' => w'.cell? ⟨w.heap.size, 0, none⟩ = some (.int .i64 a) ∧ w'.cell? ⟨w.heap.size, 1, none⟩ = some (.int .i64 o)) (go_keep)
    (first | (go_at_call 38; refine (sizeOf_any _ _ _ h0 h1).mono ?_; rintro e w' ⟨rfl, rfl⟩))
  go_wp2
  exact bodyPost_ret (v := .agg #[.int .i64 (bits .andNot .i64 a (2 ^ o.toNat)), .int .i64 (o + 1)]) (by simp [results, Try.results43, go_sem]) rfl ⟨rfl, (by repeat (first | exact Below.refl _ _ | assumption | apply Below.drew | apply b_drewN | apply b_alloc | (refine Below.setCell ?_ (by (try simp); (try omega)) _) | (refine b_then ?_ (by assumption))))⟩

/-- what Check answers -/
def chk (a o : Int) : Int := if o < 0 ∨ 6 < o then 2 else if a < 0 then 2 else if a % 2 ^ o.toNat ≠ 0 then 13 else if a > 256 - 2 ^ o.toNat then 2 else 0

theorem Check_any (a o : Int) (w : World) (hb : a ≤ 9223372036854775807) :
    Calls Try.prog 19 #[.agg #[.int .i64 a, .int .i64 o]] w fun e w' => e = .returned (.int .i64 (chk a o)) ∧ w.alloc (.cells #[.int .i64 a, .int .i64 o] 30) = w' := by
  by_cases h : o < 0 ∨ 6 < o
  · have e : Hid (chk a o = 2) := Lib.hid (by simp [chk, h])
    go_enter Try.func19, Try.ntmps19
    go_wp2_with (go_at_call 29; refine (Size_no _ _ h).mono ?_; rintro e w' ⟨rfl, rfl⟩)
    go_ret
    exact ⟨ret_int e.out.symm, rfl⟩
  · have h0 : 0 ≤ o := by omega
    have h1 : o ≤ 6 := by omega
    have hp := pow_bd o h0 h1
    by_cases ha : a < 0
    · have e : Hid (chk a o = 2) := Lib.hid (by simp [chk, ha])
      go_enter Try.func19, Try.ntmps19
      go_wp2_with (go_at_call 29; refine (Size_ok _ _ h0 h1).mono ?_; rintro e w' ⟨rfl, rfl⟩)
      go_ret
      exact ⟨ret_int e.out.symm, rfl⟩
    · have hm := and_mask a o h0 h1 (by omega) hb
      by_cases hz : a % 2 ^ o.toNat = 0
      · have hz' : (a % 2 ^ o.toNat != 0) = false := by simp [hz]
        have E : Hid (chk a o = if a > 256 - 2 ^ o.toNat then 2 else 0) := Lib.hid (by simp [chk, h, ha, hz])
        clear h hz
        by_cases hg : a > 256 - 2 ^ o.toNat
        all_goals
          go_enter Try.func19, Try.ntmps19
          go_wp2_with (go_at_call 29; refine (Size_ok _ _ h0 h1).mono ?_; rintro e w' ⟨rfl, rfl⟩)
          go_ret
          exact ⟨ret_int (by rw [E.out]; simp [hg]), rfl⟩
      · have hz' : (a % 2 ^ o.toNat != 0) = true := by simp [hz]
        have E : Hid (chk a o = 13) := Lib.hid (by simp [chk, h, ha, hz])
        clear h hz
        go_enter Try.func19, Try.ntmps19
        go_wp2_with (go_at_call 29; refine (Size_ok _ _ h0 h1).mono ?_; rintro e w' ⟨rfl, rfl⟩)
        go_ret
        exact ⟨ret_int E.out.symm, rfl⟩
end Go.Proofs.Ytdgeahemjcopkaa
