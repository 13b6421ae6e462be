/- First and Total on both sides. -/
import Derived.Test.YtimmmhfcfocjdaaSlabL
import Derived.Test.YtimmmhfcfocjdaaShelfBits
namespace Go.Proofs.Ytimmmhfcfocjdaa
open Go.RowKit

theorem slGo_valid : ∀ (l : List (Int × Int)) (i : Nat) (pv : Int), (slGo i pv l).1 = 0 → ∀ s ∈ l, schk s.1 = 0 ∧ s.2 ≠ 0
  | [], _, _, _ => by simp
  | a :: l, i, pv, h => by
    unfold slGo at h
    split at h
    · rename_i h1; exact absurd h h1
    · rename_i h1
      split at h
      · simp at h
      · rename_i h2
        split at h
        · simp at h
        · intro s hs
          rcases List.mem_cons.1 hs with rfl | hs
          · exact ⟨by simpa using h1, h2⟩
          · exact slGo_valid l _ _ h s hs

def ftGo : Nat → List (Int × Int) → Int
  | _, [] => -1
  | i, s :: l => if s.2 ≠ 255 then i else ftGo (i + 1) l
/-- what First answers -/
def ftA (l : List (Int × Int)) : Int := if (sl l).1 = 0 then ftGo 0 l else 0
theorem ftGo_yes {i : Nat} {s : Int × Int} {l : List (Int × Int)} (h : s.2 ≠ 255) : ftGo i (s :: l) = i := by rw [ftGo, if_pos h]
theorem ftGo_no {i : Nat} {s : Int × Int} {l : List (Int × Int)} (h : s.2 = 255) : ftGo i (s :: l) = ftGo (i + 1) l := by rw [ftGo, if_neg (by simp [h])]

def totTo (l : List (Int × Int)) (k : Nat) : Int := ((l.take k).map fun s => oc s.2).sum
/-- what Total answers -/
def totA (l : List (Int × Int)) : Int := if (sl l).1 = 0 then totTo l l.length else 0
theorem totTo_succ (l : List (Int × Int)) (k : Nat) (h : k < l.length) : totTo l (k + 1) = totTo l k + oc (l[k]).2 := by
  unfold totTo
  rw [List.take_succ_eq_append_getElem h, List.map_append, List.sum_append]
  simp only [List.map_cons, List.map_nil, List.sum_cons, List.sum_nil, Int.add_zero]

theorem oc_def (u : Int) : (Lib.onesCount u.toNat : Int) = oc u := rfl

theorem First_any (v : Value) (l : List (Int × Int)) (w : World) (h : Rd encS 2 w v l) (hl : l.length ≤ 1000000) :
    Calls Try.prog 32 #[v] w fun e w' => e = .returned (.tuple #[.int .i64 (ftA l), .int .i64 (sl l).1]) ∧ Below w.heap.size w w' := by
  have h' := h
  obtain ⟨A, c, rfl, hc, hx⟩ := rd_get h
  clear h
  by_cases hok : (sl l).1 = 0
  · have hval := Lib.hid (slGo_valid l 0 (-1) hok)
    have E0 : Hid (ftA l = ftGo 0 l) := Lib.hid (by rw [ftA, if_pos hok])
    have Hok := Lib.hid hok
    clear hok
    go_enter Try.func32, Try.ntmps32
    go_wp2_with fail
    refine (sCheckList_any _ _ _ h' hl).mono ?_
    rintro e w1 ⟨rfl, hb1⟩
    rw [Hok.out]
    clear h'
    go_wp2
    go_loopw [18] (fun i wr => ∃ (k : Nat), k ≤ l.length ∧ i = .int .i64 k ∧ Hid (ftA l = ftGo k (l.drop k)) ∧ Below w.heap.size w wr) (fun i _ => l.length - (intOf i).toNat)
    case atStart => exact ⟨0, Nat.zero_le _, rfl, E0.out, hb1⟩
    case round =>
      obtain ⟨k, hk, rfl, hcl, hbel⟩ := hrel
      by_cases hlt : k < l.length
      · obtain ⟨b, off, rfl, hbb, hxx⟩ := hx k hlt
        have hd := drop_get l k hlt
        have p0 := hxx 0 _ rfl
        have p1 := hxx 1 _ rfl
        simp only [Nat.add_zero] at p0
        have q0 : wr.cell? ⟨b, off + k * 2, none⟩ = some (.int .i64 (l[k]).1) := (hbel.cell (p := ⟨b, off + k * 2, none⟩) hbb).trans p0
        have q1 : wr.cell? ⟨b, off + k * 2 + 1, none⟩ = some (.int .u8 (l[k]).2) := (hbel.cell (p := ⟨b, off + k * 2 + 1, none⟩) hbb).trans p1
        have hv := hval.out l[k] (List.getElem_mem hlt)
        clear p0 p1 hxx hx
        by_cases hf : (l[k]).2 = 255
        · have E : Hid (ftA l = ftGo (k + 1) (l.drop (k + 1))) := Lib.hid (by rw [hcl.out, hd, ftGo_no hf])
          have hs : (sst (l[k]).2 == 2) = false := by rw [hf]; decide
          clear hd hf hv
          generalize l[k] = x at *
          obtain ⟨xa, xo⟩ := x
          simp only at *
          go_wp2_with (go_at_call 37; refine (stateOf_any _ _ _).mono ?_; rintro e w' ⟨rfl, rfl⟩)
          go_roundw
          case rel => exact ⟨k + 1, by omega, by go_num, E.out, (by repeat (first | exact Below.refl _ _ | assumption | apply Below.drew | apply b_drewN | apply b_alloc | (refine Below.setCell ?_ (by (try simp); (try omega)) _) | (refine b_then ?_ (by assumption))))⟩
          case measure => simp [intOf]; omega
        · have E : Hid (ftA l = k) := Lib.hid (by rw [hcl.out, hd, ftGo_yes hf])
          have hs : (sst (l[k]).2 == 2) = true := by simp [sst, hv.2, hf]
          clear hd hf hv
          generalize l[k] = x at *
          obtain ⟨xa, xo⟩ := x
          simp only at *
          go_wp2_with (go_at_call 37; refine (stateOf_any _ _ _).mono ?_; rintro e w' ⟨rfl, rfl⟩)
          go_ret2
          exact ⟨by rw [E.out, Hok.out]; rfl, (by repeat (first | exact Below.refl _ _ | assumption | apply Below.drew | apply b_drewN | apply b_alloc | (refine Below.setCell ?_ (by (try simp); (try omega)) _) | (refine b_then ?_ (by assumption))))⟩
      · obtain rfl : k = l.length := by omega
        have E : Hid (ftA l = -1) := Lib.hid (by rw [hcl.out, List.drop_length]; rfl)
        go_wp2
        go_ret2
        exact ⟨by rw [E.out, Hok.out]; rfl, (by repeat (first | exact Below.refl _ _ | assumption | apply Below.drew | apply b_drewN | apply b_alloc | (refine Below.setCell ?_ (by (try simp); (try omega)) _) | (refine b_then ?_ (by assumption))))⟩
  · have E : Hid (ftA l = 0) := Lib.hid (by rw [ftA, if_neg hok])
    have hne : ((sl l).1 != 0) = true := by simp [hok]
    clear hok
    go_enter Try.func32, Try.ntmps32
    go_wp2_with fail
    refine (sCheckList_any _ _ _ h' hl).mono ?_
    rintro e w1 ⟨rfl, hb1⟩
    go_wp2
    go_ret2
    exact ⟨by rw [E.out]; rfl, hb1⟩

theorem rFirst_any (v : Value) (l : List (Int × Int)) (w : World) (h : Rd encS 2 w v l) (hl : l.length ≤ 1000000) (hb : ∀ s ∈ l, 0 ≤ s.2 ∧ s.2 ≤ 255) :
    Calls Try.prog 33 #[v] w fun e w' => e = .returned (.tuple #[.int .i64 (ftA l), .int .i64 (sl l).1]) ∧ Below w.heap.size w w' := by
  have h' := h
  obtain ⟨A, c, rfl, hc, hx⟩ := rd_get h
  clear h
  by_cases hok : (sl l).1 = 0
  · have hval := Lib.hid (slGo_valid l 0 (-1) hok)
    have E0 : Hid (ftA l = ftGo 0 l) := Lib.hid (by rw [ftA, if_pos hok])
    have Hok := Lib.hid hok
    clear hok
    go_enter Try.func33, Try.ntmps33
    go_wp2_with fail
    refine (rsCheckList_any _ _ _ h' hl).mono ?_
    rintro e w1 ⟨rfl, hb1⟩
    rw [Hok.out]
    clear h'
    go_wp2
    go_loopw [6] (fun i wr => ∃ (k : Nat), k ≤ l.length ∧ i = .int .i64 k ∧ Hid (ftA l = ftGo k (l.drop k)) ∧ Below w.heap.size w wr) (fun i _ => l.length - (intOf i).toNat)
    case atStart => exact ⟨0, Nat.zero_le _, rfl, E0.out, hb1⟩
    case round =>
      obtain ⟨k, hk, rfl, hcl, hbel⟩ := hrel
      by_cases hlt : k < l.length
      · obtain ⟨b, off, rfl, hbb, hxx⟩ := hx k hlt
        have hd := drop_get l k hlt
        have p0 := hxx 0 _ rfl
        have p1 := hxx 1 _ rfl
        simp only [Nat.add_zero] at p0
        have q0 : wr.cell? ⟨b, off + k * 2, none⟩ = some (.int .i64 (l[k]).1) := (hbel.cell (p := ⟨b, off + k * 2, none⟩) hbb).trans p0
        have q1 : wr.cell? ⟨b, off + k * 2 + 1, none⟩ = some (.int .u8 (l[k]).2) := (hbel.cell (p := ⟨b, off + k * 2 + 1, none⟩) hbb).trans p1
        have hv := hval.out l[k] (List.getElem_mem hlt)
        obtain ⟨u0, u1⟩ := hb l[k] (List.getElem_mem hlt)
        obtain ⟨o0, o8, o1, o2⟩ := oc_zero (l[k]).2 u0 u1
        have hcn : cnt (l[k]).1 (l[k]).2 = oc (l[k]).2 := by simp [cnt, hv.1]
        clear p0 p1 hxx hx hb o0
        by_cases hf : (l[k]).2 = 255
        · have E : Hid (ftA l = ftGo (k + 1) (l.drop (k + 1))) := Lib.hid (by rw [hcl.out, hd, ftGo_no hf])
          have hs : decide (cnt (l[k]).1 (l[k]).2 < 8) = false := by rw [hcn]; simp [hf] at o8 ⊢; omega
          clear hd hf hv o8 hcn
          generalize l[k] = x at *
          obtain ⟨xa, xo⟩ := x
          simp only at *
          go_wp2_with (go_at_call 21; refine (rCount_any _ _ _ u0 u1).mono ?_; rintro e w2 ⟨rfl, hb2⟩)
          go_roundw
          case rel => exact ⟨k + 1, by omega, by go_num, E.out, (by repeat (first | exact Below.refl _ _ | assumption | apply Below.drew | apply b_drewN | apply b_alloc | (refine Below.setCell ?_ (by (try simp); (try omega)) _) | (refine b_then ?_ (by assumption))))⟩
          case measure => simp [intOf]; omega
        · have E : Hid (ftA l = k) := Lib.hid (by rw [hcl.out, hd, ftGo_yes hf])
          have hs : decide (cnt (l[k]).1 (l[k]).2 < 8) = true := by rw [hcn]; simp [hf] at o8 ⊢; omega
          clear hd hf hv o8 hcn
          generalize l[k] = x at *
          obtain ⟨xa, xo⟩ := x
          simp only at *
          go_wp2_with (go_at_call 21; refine (rCount_any _ _ _ u0 u1).mono ?_; rintro e w2 ⟨rfl, hb2⟩)
          go_ret2
          exact ⟨by rw [E.out, Hok.out]; rfl, (by repeat (first | exact Below.refl _ _ | assumption | apply Below.drew | apply b_drewN | apply b_alloc | (refine Below.setCell ?_ (by (try simp); (try omega)) _) | (refine b_then ?_ (by assumption))))⟩
      · obtain rfl : k = l.length := by omega
        have E : Hid (ftA l = -1) := Lib.hid (by rw [hcl.out, List.drop_length]; rfl)
        go_wp2
        go_ret2
        exact ⟨by rw [E.out, Hok.out]; rfl, (by repeat (first | exact Below.refl _ _ | assumption | apply Below.drew | apply b_drewN | apply b_alloc | (refine Below.setCell ?_ (by (try simp); (try omega)) _) | (refine b_then ?_ (by assumption))))⟩
  · have E : Hid (ftA l = 0) := Lib.hid (by rw [ftA, if_neg hok])
    have hne : ((sl l).1 != 0) = true := by simp [hok]
    clear hok
    go_enter Try.func33, Try.ntmps33
    go_wp2_with fail
    refine (rsCheckList_any _ _ _ h' hl).mono ?_
    rintro e w1 ⟨rfl, hb1⟩
    go_wp2
    go_ret2
    exact ⟨by rw [E.out]; rfl, hb1⟩

theorem Total_any (v : Value) (l : List (Int × Int)) (w : World) (h : Rd encS 2 w v l) (hl : l.length ≤ 1000000) (hb : ∀ s ∈ l, 0 ≤ s.2 ∧ s.2 ≤ 255) :
    Calls Try.prog 34 #[v] w fun e w' => e = .returned (.tuple #[.int .i64 (totA l), .int .i64 (sl l).1]) ∧ Below w.heap.size w w' := by
  have h' := h
  obtain ⟨A, c, rfl, hc, hx⟩ := rd_get h
  clear h
  by_cases hok : (sl l).1 = 0
  · have E0 : Hid (totA l = totTo l l.length) := Lib.hid (by rw [totA, if_pos hok])
    have Hok := Lib.hid hok
    clear hok
    go_enter Try.func34, Try.ntmps34
    go_wp2_with fail
    refine (sCheckList_any _ _ _ h' hl).mono ?_
    rintro e w1 ⟨rfl, hb1⟩
    rw [Hok.out]
    clear h'
    go_wp2
    go_loopw [6, 19] (fun n i wr => ∃ (k : Nat) (z : Int), k ≤ l.length ∧ i = .int .i64 k ∧ n = .int .i64 z ∧ Hid (z = totTo l k) ∧ 0 ≤ z ∧ z ≤ 8 * k ∧ Below w.heap.size w wr) (fun _ i _ => l.length - (intOf i).toNat)
    case atStart => exact ⟨0, 0, Nat.zero_le _, rfl, rfl, rfl, by omega, by omega, hb1⟩
    case round =>
      obtain ⟨k, z, hk, rfl, rfl, hz, hz0, hz1, hbel⟩ := hrel
      by_cases hlt : k < l.length
      · obtain ⟨b, off, rfl, hbb, hxx⟩ := hx k hlt
        have p0 := hxx 0 _ rfl
        have p1 := hxx 1 _ rfl
        simp only [Nat.add_zero] at p0
        have q0 : wr.cell? ⟨b, off + k * 2, none⟩ = some (.int .i64 (l[k]).1) := (hbel.cell (p := ⟨b, off + k * 2, none⟩) hbb).trans p0
        have q1 : wr.cell? ⟨b, off + k * 2 + 1, none⟩ = some (.int .u8 (l[k]).2) := (hbel.cell (p := ⟨b, off + k * 2 + 1, none⟩) hbb).trans p1
        obtain ⟨u0, u1⟩ := hb l[k] (List.getElem_mem hlt)
        obtain ⟨_, _, o1, o2⟩ := oc_zero (l[k]).2 u0 u1
        have E : Hid (z + oc (l[k]).2 = totTo l (k + 1)) := Lib.hid (by rw [totTo_succ l k hlt, hz.out])
        clear p0 p1 hxx hx hb
        generalize l[k] = x at *
        obtain ⟨xa, xo⟩ := x
        simp only at *
        have hw : IntKind.i64.wrap (z + oc xo) = z + oc xo := IntWalk.i64_in _ (by omega)
        go_wp2_with (go_at_call 40; refine (bits_OnesCount8 _ _ u0 u1).mono ?_; rintro e w' ⟨rfl, rfl⟩; rw [oc_def])
        go_roundw
        case rel => exact ⟨k + 1, z + oc xo, by omega, by go_num, rfl, E.out, by omega, by omega, (by repeat (first | exact Below.refl _ _ | assumption | apply Below.drew | apply b_drewN | apply b_alloc | (refine Below.setCell ?_ (by (try simp); (try omega)) _) | (refine b_then ?_ (by assumption))))⟩
        case measure => simp [intOf]; omega
      · obtain rfl : k = l.length := by omega
        go_wp2
        go_ret2
        exact ⟨by rw [E0.out, ← hz.out, Hok.out]; rfl, (by repeat (first | exact Below.refl _ _ | assumption | apply Below.drew | apply b_drewN | apply b_alloc | (refine Below.setCell ?_ (by (try simp); (try omega)) _) | (refine b_then ?_ (by assumption))))⟩
  · have E : Hid (totA l = 0) := Lib.hid (by rw [totA, if_neg hok])
    have hne : ((sl l).1 != 0) = true := by simp [hok]
    clear hok
    go_enter Try.func34, Try.ntmps34
    go_wp2_with fail
    refine (sCheckList_any _ _ _ h' hl).mono ?_
    rintro e w1 ⟨rfl, hb1⟩
    go_wp2
    go_ret2
    exact ⟨by rw [E.out]; rfl, hb1⟩

theorem rTotal_any (v : Value) (l : List (Int × Int)) (w : World) (h : Rd encS 2 w v l) (hl : l.length ≤ 1000000) (hb : ∀ s ∈ l, 0 ≤ s.2 ∧ s.2 ≤ 255) :
    Calls Try.prog 35 #[v] w fun e w' => e = .returned (.tuple #[.int .i64 (totA l), .int .i64 (sl l).1]) ∧ Below w.heap.size w w' := by
  have h' := h
  obtain ⟨A, c, rfl, hc, hx⟩ := rd_get h
  clear h
  by_cases hok : (sl l).1 = 0
  · have hval := Lib.hid (slGo_valid l 0 (-1) hok)
    have E0 : Hid (totA l = totTo l l.length) := Lib.hid (by rw [totA, if_pos hok])
    have Hok := Lib.hid hok
    clear hok
    go_enter Try.func35, Try.ntmps35
    go_wp2_with fail
    refine (rsCheckList_any _ _ _ h' hl).mono ?_
    rintro e w1 ⟨rfl, hb1⟩
    rw [Hok.out]
    clear h'
    go_wp2
    go_loopw [6, 7] (fun n i wr => ∃ (k : Nat) (z : Int), k ≤ l.length ∧ i = .int .i64 k ∧ n = .int .i64 z ∧ Hid (z = totTo l k) ∧ 0 ≤ z ∧ z ≤ 8 * k ∧ Below w.heap.size w wr) (fun _ i _ => l.length - (intOf i).toNat)
    case atStart => exact ⟨0, 0, Nat.zero_le _, rfl, rfl, rfl, by omega, by omega, hb1⟩
    case round =>
      obtain ⟨k, z, hk, rfl, rfl, hz, hz0, hz1, hbel⟩ := hrel
      by_cases hlt : k < l.length
      · obtain ⟨b, off, rfl, hbb, hxx⟩ := hx k hlt
        have p0 := hxx 0 _ rfl
        have p1 := hxx 1 _ rfl
        simp only [Nat.add_zero] at p0
        have q0 : wr.cell? ⟨b, off + k * 2, none⟩ = some (.int .i64 (l[k]).1) := (hbel.cell (p := ⟨b, off + k * 2, none⟩) hbb).trans p0
        have q1 : wr.cell? ⟨b, off + k * 2 + 1, none⟩ = some (.int .u8 (l[k]).2) := (hbel.cell (p := ⟨b, off + k * 2 + 1, none⟩) hbb).trans p1
        have hv := hval.out l[k] (List.getElem_mem hlt)
        obtain ⟨u0, u1⟩ := hb l[k] (List.getElem_mem hlt)
        obtain ⟨_, _, o1, o2⟩ := oc_zero (l[k]).2 u0 u1
        have hcn : Hid (cnt (l[k]).1 (l[k]).2 = oc (l[k]).2) := Lib.hid (by simp [cnt, hv.1])
        have E : Hid (z + oc (l[k]).2 = totTo l (k + 1)) := Lib.hid (by rw [totTo_succ l k hlt, hz.out])
        clear p0 p1 hxx hx hb hv
        generalize l[k] = x at *
        obtain ⟨xa, xo⟩ := x
        simp only at *
        have hw : IntKind.i64.wrap (z + oc xo) = z + oc xo := IntWalk.i64_in _ (by omega)
        go_wp2_with (go_at_call 21; refine (rCount_any _ _ _ u0 u1).mono ?_; rintro e w2 ⟨rfl, hb2⟩; rw [hcn.out])
        go_roundw
        case rel => exact ⟨k + 1, z + oc xo, by omega, by go_num, rfl, E.out, by omega, by omega, (by repeat (first | exact Below.refl _ _ | assumption | apply Below.drew | apply b_drewN | apply b_alloc | (refine Below.setCell ?_ (by (try simp); (try omega)) _) | (refine b_then ?_ (by assumption))))⟩
        case measure => simp [intOf]; omega
      · obtain rfl : k = l.length := by omega
        go_wp2
        go_ret2
        exact ⟨by rw [E0.out, ← hz.out, Hok.out]; rfl, (by repeat (first | exact Below.refl _ _ | assumption | apply Below.drew | apply b_drewN | apply b_alloc | (refine Below.setCell ?_ (by (try simp); (try omega)) _) | (refine b_then ?_ (by assumption))))⟩
  · have E : Hid (totA l = 0) := Lib.hid (by rw [totA, if_neg hok])
    have hne : ((sl l).1 != 0) = true := by simp [hok]
    clear hok
    go_enter Try.func35, Try.ntmps35
    go_wp2_with fail
    refine (rsCheckList_any _ _ _ h' hl).mono ?_
    rintro e w1 ⟨rfl, hb1⟩
    go_wp2
    go_ret2
    exact ⟨by rw [E.out]; rfl, hb1⟩
end Go.Proofs.Ytimmmhfcfocjdaa
