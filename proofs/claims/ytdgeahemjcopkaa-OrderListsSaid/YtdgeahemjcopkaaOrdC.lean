/- Contracts: Cut of package order and of the reference. -/
import Derived.Test.YtdgeahemjcopkaaOrdB
import Derived.Test.YtdgeahemjcopkaaOrdP
import Derived.Test.YtdgeahemjcopkaaLib2
import Derived.Deep.DeepMust
set_option linter.unusedSimpArgs false
set_option linter.unusedVariables false
namespace Go.Proofs.Ytdgeahemjcopkaa
open Go.RowKit

theorem infoB : (Try.prog.info? 30).map (fun i => (i.zero, i.size, i.bytes)) = some (some (.agg #[.int .i64 0, .int .i64 0]), 2, 16) := by kernel_rfl

theorem elemB : ElemT Try.prog 22 30 2 16 := elemT Try.underlying22 infoB rfl (by decide)
theorem codedB : Coded encB 2 := ⟨fun _ => rfl, by intro x u hu; simp [encB] at hu; rcases hu with rfl | rfl <;> rfl⟩

theorem Cut_no (f t : Int) (w : World) (h : f < 0 ∨ t < f ∨ 256 < t) :
    Calls Try.prog 11 #[.int .i64 f, .int .i64 t] w fun e w' => e = .returned (.tuple #[.slice none 0 0, .int .i64 2]) ∧ w = w' := by
  by_cases h1 : f < 0
  · go_enter Try.func11, Try.ntmps11
    go_wp2
    go_ret2
    exact ⟨rfl, rfl⟩
  · have h1' : decide (f < 0) = false := by simp; omega
    by_cases h2 : t < f
    · go_enter Try.func11, Try.ntmps11
      go_wp2
      go_ret2
      exact ⟨rfl, rfl⟩
    · have h2' : decide (t < f) = false := by simp; omega
      have h3 : 256 < t := by omega
      go_enter Try.func11, Try.ntmps11
      go_wp2
      go_ret2
      exact ⟨rfl, rfl⟩

theorem Cut_ok (f t : Int) (w : World) (h0 : 0 ≤ f) (h1 : f ≤ t) (h2 : t ≤ 256) :
    Calls Try.prog 11 #[.int .i64 f, .int .i64 t] w fun e w' => ∃ v, e = .returned (.tuple #[v, .int .i64 0]) ∧ Rd encB 2 w' v (cut f t) ∧ Below w.heap.size w w' := by
  have d1 : decide (f < 0) = false := by simp; omega
  have d2 : decide (t < f) = false := by simp; omega
  have d3 : decide (256 < t) = false := by simp; omega
  go_enter Try.func11, Try.ntmps11
  go_wp2
  go_loopw [6, 7] (fun l at_ wr => ∃ (a : Int) (acc : List (Int × Int)), at_ = .int .i64 a ∧ 0 ≤ a ∧ a ≤ t ∧ Own encB 2 w.heap.size 30 wr l acc ∧ Hid (acc ++ cut a t = cut f t) ∧ (acc.length : Int) ≤ a ∧ Below w.heap.size w wr) (fun _ a _ => (t - intOf a).toNat)
  case atStart => exact ⟨f, [], rfl, h0, h1, Own.nil _, rfl, by simpa using h0, Below.refl _ _⟩
  case round =>
    obtain ⟨a, acc, rfl, ha0, ha1, hown, hcut, hlen, hbel⟩ := hrel
    by_cases hlt : a < t
    · go_wp2
      obtain ⟨wo, hwo⟩ : ∃ wo : World, wo = wr := ⟨_, rfl⟩
      rw [← hwo] at hown hbel
      obtain rfl := hwo
      go_loopw [] (fun wi => ∃ k : Nat, k ≤ 6 ∧ Blk wi wo.heap.size 30 #[.int .i64 a, .int .i64 k] ∧ Below wo.heap.size wo wi ∧ Hid (kOf a t = kDown a t k)) (fun wi => cellN wi wo.heap.size 1)
      case atStart => exact ⟨6, by omega, Blk.new _ _ _, (Below.refl _ _).alloc (Nat.le_refl _) _, rfl⟩
      case round =>
        obtain ⟨k, hk6, hblk, hbi, hkd⟩ := hrel
        have c0 : wr.cell? ⟨wo.heap.size, 0, none⟩ = some (.int .i64 a) := hblk.cell 0
        have c1 : wr.cell? ⟨wo.heap.size, 1, none⟩ = some (.int .i64 k) := hblk.cell 1
        have f1 : wr.frozen? ⟨wo.heap.size, 1, none⟩ = false := hblk.frozen 1
        have hz : wo.heap.size < wr.heap.size := hblk.lt
        have hzz : w.heap.size ≤ wr.heap.size := Nat.le_trans hbel.size hbi.size
        have hp := pow_bd k (by omega) (by omega)
        rw [Int.toNat_natCast] at hp
        have hm := and_mask a k (by omega) (by omega) ha0 (by omega)
        rw [Int.toNat_natCast] at hm
        by_cases hok : okK a t k = true
        · have hok' := okK_iff.1 hok
          have hq : (a % 2 ^ k != 0) = false := by simp [hok'.1]
          have hg : ¬ (t - a < 2 ^ k) := by omega
          have hke : Hid (kOf a t = k) := Lib.hid (by rw [hkd.out, kDown_at k hok])
          have hne := hown.ne_of (Nat.le_refl wo.heap.size)
          go_wp2_with (first
            | (go_at_call 38; refine (sizeOf_any _ _ _ (by omega) (by omega)).mono ?_; rintro e w' ⟨rfl, rfl⟩; rw [Int.toNat_natCast])
            | (at_builtin; go_must (refine wpList_append1 _ rfl _ _ rfl elemB codedB _ acc rfl (((hown.call hbi).alloc _).alloc _ |>.alloc _) _ (a, (k : Int)) rfl (blk_new (by simp)) (by simp only [maxLen]; omega) (by omega) (by (try simp); (try omega)) ?_); intro v1 w1 hown1 hg1 hat1; have hb1 := ((hblk.alloc _).alloc _ |>.alloc _).grown hg1 (fun e => hne e.symm); have c0' := hb1.cell 0; have c1' := hb1.cell 1; simp only [List.getElem?_toArray, List.getElem?_cons_zero, List.getElem?_cons_succ] at c0' c1'; clear c0 c1 f1))
          have hst := cut_step hlt
          go_roundw
          case rel =>
            refine ⟨a + 2 ^ k, acc ++ [(a, (k : Int))], rfl, by omega, by omega, hown1.alloc _, ?_, by simp; omega, ?_⟩
            · show _ = _
              have := hcut.out
              rw [hst, hke.out] at this
              rw [← this]; simp
            · refine Below.alloc ?_ ?_ _
              · refine Below.grown (w := ((wr.alloc _).alloc _).alloc _) (((Below.alloc (Below.alloc (hbel.trans (hbi.mono hbel.size)) ?_ _) ?_ _).alloc ?_ _)) hg1 ?_ (fun k hk => (hown.lt k hk).1) <;> first | exact hzz | (simp; omega)
              · have := hg1.size; simp at this; omega
          case measure => simp [intOf]; omega
        · have hok0 : okK a t k = false := by simpa using hok
          have hk1 : 1 ≤ k := by
            cases k with
            | zero => exact absurd (okK_zero hlt) (by simp [hok0])
            | succ k' => omega
          have hke : Hid (kOf a t = kDown a t (k - 1)) := by
            obtain ⟨k', rfl⟩ : ∃ k', k = k' + 1 := ⟨k - 1, by omega⟩
            exact Lib.hid (by rw [hkd.out, kDown_not hok0]; rfl)
          have hcast : Hid (((k - 1 : Nat) : Int) = (k : Int) - 1) := Lib.hid (by omega)
          by_cases hq : a % 2 ^ k = 0
          · have hq' : (a % 2 ^ k != 0) = false := by simp [hq]
            have hg : t - a < 2 ^ k := by
              have := mt okK_iff.2 hok
              rw [not_and] at this
              have := this hq
              omega
            clear hq hok hok0
            go_wp2_with (go_at_call 38; refine (sizeOf_any _ _ _ (by omega) (by omega)).mono ?_; rintro e w' ⟨rfl, rfl⟩; rw [Int.toNat_natCast])
            go_roundw
            case rel => exact ⟨k - 1, by omega, by rw [hcast.out]; exact ((hblk.set_ 1 _).alloc _).alloc _, (by repeat (first | exact Below.refl _ _ | assumption | apply Below.drew | apply b_drewN | apply b_alloc | (refine Below.setCell ?_ (by (try simp); (try omega)) _) | (refine b_then ?_ (by assumption)))), hke.out⟩
            case measure => rw [cellN_blk (((hblk.set_ 1 _).alloc _).alloc _) (q := (k : Int) - 1) rfl, cellN_blk hblk (i := 1) rfl]; omega
          · have hq' : (a % 2 ^ k != 0) = true := by simp [hq]
            clear hq hok hok0
            go_wp2_with (go_at_call 38; refine (sizeOf_any _ _ _ (by omega) (by omega)).mono ?_; rintro e w' ⟨rfl, rfl⟩; rw [Int.toNat_natCast])
            go_roundw
            case rel => exact ⟨k - 1, by omega, by rw [hcast.out]; exact (hblk.set_ 1 _).alloc _, (by repeat (first | exact Below.refl _ _ | assumption | apply Below.drew | apply b_drewN | apply b_alloc | (refine Below.setCell ?_ (by (try simp); (try omega)) _) | (refine b_then ?_ (by assumption)))), hke.out⟩
            case measure => rw [cellN_blk ((hblk.set_ 1 _).alloc _) (q := (k : Int) - 1) rfl, cellN_blk hblk (i := 1) rfl]; omega
    · go_wp2
      go_ret2
      refine ⟨_, rfl, ?_, hbel⟩
      have := hcut.out
      rw [cut_end (by omega), List.append_nil] at this
      rw [← this]
      exact hown.rd codedB
end Go.Proofs.Ytdgeahemjcopkaa
