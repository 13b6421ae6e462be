/- Contracts: the reference's Cut, and the law's 'awake'. -/
import Derived.Test.YtdgeahemjcopkaaOrdC
set_option linter.unusedSimpArgs false
set_option linter.unusedVariables false
namespace Go.Proofs.Ytdgeahemjcopkaa
open Go.RowKit

theorem rCut_no (f t : Int) (w : World) (h : f < 0 ∨ t < f ∨ 256 < t) :
    Calls Try.prog 12 #[.int .i64 f, .int .i64 t] w fun e w' => e = .returned (.tuple #[.slice none 0 0, .int .i64 2]) ∧ w = w' := by
  by_cases h1 : f < 0
  · go_enter Try.func12, Try.ntmps12
    go_wp2
    go_ret2
    exact ⟨rfl, rfl⟩
  · have h1' : decide (f < 0) = false := by simp; omega
    by_cases h2 : t < f
    · go_enter Try.func12, Try.ntmps12
      go_wp2
      go_ret2
      exact ⟨rfl, rfl⟩
    · have h2' : decide (t < f) = false := by simp; omega
      have h3 : 256 < t := by omega
      go_enter Try.func12, Try.ntmps12
      go_wp2
      go_ret2
      exact ⟨rfl, rfl⟩

theorem rCut_ok (f t : Int) (w : World) (h0 : 0 ≤ f) (h1 : f ≤ t) (h2 : t ≤ 256) :
    Calls Try.prog 12 #[.int .i64 f, .int .i64 t] w fun e w' => ∃ v, e = .returned (.tuple #[v, .int .i64 0]) ∧ Rd encB 2 w' v (cut f t) ∧ Below w.heap.size w w' := by
  have d1 : decide (f < 0) = false := by simp; omega
  have d2 : decide (t < f) = false := by simp; omega
  have d3 : decide (256 < t) = false := by simp; omega
  go_enter Try.func12, Try.ntmps12
  go_wp2
  go_loopw [6, 7] (fun l at_ wr => ∃ (a : Int) (acc : List (Int × Int)), at_ = .int .i64 a ∧ 0 ≤ a ∧ a ≤ t ∧ Own encB 2 w.heap.size 30 wr l acc ∧ Hid (acc ++ cut a t = cut f t) ∧ (acc.length : Int) ≤ a ∧ Below w.heap.size w wr) (fun _ a _ => (t - intOf a).toNat)
  case atStart => exact ⟨f, [], rfl, h0, h1, Own.nil _, rfl, by simpa using h0, Below.refl _ _⟩
  case round =>
    obtain ⟨a, acc, rfl, ha0, ha1, hown, hcut, hlen, hbel⟩ := hrel
    by_cases hlt : a < t
    · go_wp2
      have hzz : w.heap.size ≤ wr.heap.size := hbel.size
      go_loop [8] (fun s => ∃ k : Nat, k ≤ 6 ∧ s = .int .i64 k ∧ Hid (okK a t k = true)) (fun s => 6 - (intOf s).toNat)
      case atStart => exact ⟨0, by omega, rfl, okK_zero hlt⟩
      case round =>
        obtain ⟨k, hk6, rfl, hok⟩ := hrel
        have hst := cut_step hlt
        have Hst := Lib.hid hst
        clear hst
        by_cases hkl : k < 6
        · have hd : decide ((k : Int) < 6) = true := by simp; omega
          have hp := pow_nat (k + 1)
          have hp2 : (2 : Int) ^ (k + 1) ≤ 64 := by have := (pow_bd ((k + 1 : Nat) : Int) (by omega) (by omega)).2; rwa [Int.toNat_natCast] at this
          by_cases hn : okK a t (k + 1) = true
          · have hn' := okK_iff.1 hn
            have hq : (a % 2 ^ (k + 1) == 0) = true := by simp [hn'.1]
            have hl : a + 2 ^ (k + 1) ≤ t := by omega
            have Hn := Lib.hid hn
            clear hn hn'
            go_wp2_with (go_at_call 39; refine (rsize_any _ _ (by omega) (by omega)).mono ?_; rintro e w' ⟨rfl, rfl⟩; rw [show ((k : Int) + 1).toNat = k + 1 from by omega])
            go_round
            case rel => exact ⟨k + 1, by omega, by go_num, Hn.out⟩
            case measure => simp [intOf]; omega
          · have hn0 : okK a t (k + 1) = false := by simpa using hn
            have hke : Hid (kOf a t = k) := Lib.hid (kOf_eq hk6 hok.out (.inr hn0))
            have hp3 := pow_bd (k : Int) (by omega) (by omega)
            rw [Int.toNat_natCast] at hp3
            have hok' := okK_iff.1 hok.out
            have hle : a + 2 ^ k ≤ t := by omega
            by_cases hq : a % 2 ^ (k + 1) = 0
            · have hq' : (a % 2 ^ (k + 1) == 0) = true := by simp [hq]
              have hg : ¬ (a + 2 ^ (k + 1) ≤ t) := by
                intro h
                exact hn (okK_iff.2 ⟨hq, by omega⟩)
              clear hq hn hn0 hok'
              go_wp2_with (first
                | (go_at_call 39; refine (rsize_any _ _ (by omega) (by omega)).mono ?_; rintro e w' ⟨rfl, rfl⟩; first | rw [show ((k : Int) + 1).toNat = k + 1 from by omega] | rw [Int.toNat_natCast])
                | (at_builtin; go_must (refine wpList_append1 _ rfl _ _ rfl elemB codedB _ acc rfl (hown.alloc _) _ (a, (k : Int)) rfl (blk_new (by simp)) (by simp only [maxLen]; omega) (by omega) (by (try simp); (try omega)) ?_); intro v1 w1 hown1 hg1 hat1))
              go_roundw
              case rel =>
                refine ⟨a + 2 ^ k, acc ++ [(a, (k : Int))], rfl, by omega, by omega, hown1, ?_, by simp; omega, (Below.alloc hbel hzz _).grown hg1 (by simp; omega) (fun k hk => (hown.lt k hk).1)⟩
                have := hcut.out
                rw [Hst.out, hke.out] at this
                show _ = _
                rw [← this]; simp
              case measure => simp [intOf]; omega
            · have hq' : (a % 2 ^ (k + 1) == 0) = false := by simp [hq]
              clear hq hn hn0 hok'
              go_wp2_with (first
                | (go_at_call 39; refine (rsize_any _ _ (by omega) (by omega)).mono ?_; rintro e w' ⟨rfl, rfl⟩; first | rw [show ((k : Int) + 1).toNat = k + 1 from by omega] | rw [Int.toNat_natCast])
                | (at_builtin; go_must (refine wpList_append1 _ rfl _ _ rfl elemB codedB _ acc rfl (hown.alloc _) _ (a, (k : Int)) rfl (blk_new (by simp)) (by simp only [maxLen]; omega) (by omega) (by (try simp); (try omega)) ?_); intro v1 w1 hown1 hg1 hat1))
              go_roundw
              case rel =>
                refine ⟨a + 2 ^ k, acc ++ [(a, (k : Int))], rfl, by omega, by omega, hown1, ?_, by simp; omega, (Below.alloc hbel hzz _).grown hg1 (by simp; omega) (fun k hk => (hown.lt k hk).1)⟩
                have := hcut.out
                rw [Hst.out, hke.out] at this
                show _ = _
                rw [← this]; simp
              case measure => simp [intOf]; omega
        · have hd : decide ((k : Int) < 6) = false := by simp; omega
          have hke : Hid (kOf a t = k) := Lib.hid (kOf_eq hk6 hok.out (.inl (by omega)))
          have hp3 := pow_bd (k : Int) (by omega) (by omega)
          rw [Int.toNat_natCast] at hp3
          have hok' := okK_iff.1 hok.out
          have hle : a + 2 ^ k ≤ t := by omega
          clear hok'
          go_wp2_with (first
            | (go_at_call 39; refine (rsize_any _ _ (by omega) (by omega)).mono ?_; rintro e w' ⟨rfl, rfl⟩; rw [Int.toNat_natCast])
            | (at_builtin; go_must (refine wpList_append1 _ rfl _ _ rfl elemB codedB _ acc rfl (hown.alloc _) _ (a, (k : Int)) rfl (blk_new (by simp)) (by simp only [maxLen]; omega) (by omega) (by (try simp); (try omega)) ?_); intro v1 w1 hown1 hg1 hat1))
          go_roundw
          case rel =>
            refine ⟨a + 2 ^ k, acc ++ [(a, (k : Int))], rfl, by omega, by omega, hown1, ?_, by simp; omega, (Below.alloc hbel hzz _).grown hg1 (by simp; omega) (fun k hk => (hown.lt k hk).1)⟩
            have := hcut.out
            rw [Hst.out, hke.out] at this
            show _ = _
            rw [← this]; simp
          case measure => simp [intOf]; omega
    · go_wp2
      go_ret2
      refine ⟨_, rfl, ?_, hbel⟩
      have := hcut.out
      rw [cut_end (by omega), List.append_nil] at this
      rw [← this]
      exact hown.rd codedB

theorem cut_3_13 : cut 3 13 = [(3, 0), (4, 2), (8, 2), (12, 0)] := by decide +kernel

theorem awake_any (w : World) : Calls Try.prog 14 #[] w fun e w' => e = .returned (.bool true) ∧ Below w.heap.size w w' := by
  go_enter Try.func14, Try.ntmps14
  go_wp2_with fail
  refine (b_any _ _ _).mono ?_
  rintro e w' ⟨rfl, rfl⟩
  go_wp2_with fail
  refine (Buddy_any 16 2 _ (by omega)).mono ?_
  rintro e w1 ⟨rfl, hb1⟩
  have e1 : budA 16 2 = 20 := by decide +kernel
  have e2 : budO 16 2 = 2 := by decide +kernel
  have e3 : chkS 16 2 = 0 := by decide +kernel
  rw [e1, e2, e3]
  clear e1 e2 e3
  go_wp2_with fail
  refine (Cut_ok 3 13 _ (by omega) (by omega) (by omega)).mono ?_
  rintro e w2 ⟨v, rfl, hv, hb2⟩
  rw [cut_3_13] at hv
  go_wp2_with fail
  have hz1 : w1.heap.size < w2.heap.size := b_lt hb2 (by (try simp); (try omega))
  have c0 : w2.cell? ⟨w1.heap.size, 0, none⟩ = some (.int .i64 20) := (hb2.cell (p := ⟨w1.heap.size, 0, none⟩) (by (try simp); (try omega))).trans (by simp)
  have c1 : w2.cell? ⟨w1.heap.size, 1, none⟩ = some (.int .i64 2) := (hb2.cell (p := ⟨w1.heap.size, 1, none⟩) (by (try simp); (try omega))).trans (by simp)
  have HS : Hid (∀ W, Below w2.heap.size w2 W → W.cell? ⟨w1.heap.size, 0, none⟩ = some (.int .i64 20) ∧ W.cell? ⟨w1.heap.size, 1, none⟩ = some (.int .i64 2)) :=
    Lib.hid fun W hb => ⟨(hb.cell (p := ⟨w1.heap.size, 0, none⟩) hz1).trans c0, (hb.cell (p := ⟨w1.heap.size, 1, none⟩) hz1).trans c1⟩
  go_region_held3 (fun w' => w'.cell? ⟨w1.heap.size, 0, none⟩ = some (.int .i64 20) ∧ w'.cell? ⟨w1.heap.size, 1, none⟩ = some (.int .i64 2)) (exact HS.out _ (by repeat (first | exact Below.refl _ _ | assumption | apply Below.drew | apply b_drewN | apply b_alloc | (refine Below.setCell ?_ (by (try simp); (try omega)) _) | (refine b_then ?_ (by assumption)))))
    (first | (go_at_call 22; refine (b_any _ _ _).mono ?_; rintro e w' ⟨rfl, rfl⟩) | (go_at_call 13; refine (same_true _ _ [(3, 0), (4, 2), (8, 2), (12, 0)] _ ?_ ?_ (by decide)).mono ?_; (refine hv.keep ?_; exact (by repeat (first | exact Below.refl _ _ | assumption | apply Below.drew | apply b_drewN | apply b_alloc | (refine Below.setCell ?_ (by (try simp); (try omega)) _) | (refine b_then ?_ (by assumption))))); (exact rd_blk codedB (blk_new (by simp)) rfl rfl); rintro e w' ⟨rfl, n, rfl⟩))
  go_wp2
  go_ret
  exact ⟨rfl, (by repeat (first | exact Below.refl _ _ | assumption | apply Below.drew | apply b_drewN | apply b_alloc | (refine Below.setCell ?_ (by (try simp); (try omega)) _) | (refine b_then ?_ (by assumption))))⟩
end Go.Proofs.Ytdgeahemjcopkaa
