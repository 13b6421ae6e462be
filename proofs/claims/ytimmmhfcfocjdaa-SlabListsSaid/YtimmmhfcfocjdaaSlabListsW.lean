/- The walk of SlabLists. -/
import Derived.Test.YtimmmhfcfocjdaaSlabM
import Derived.Test.YtimmmhfcfocjdaaSlabOpen
import Derived.Test.YtimmmhfcfocjdaaOpen2
namespace Go.Proofs.Ytimmmhfcfocjdaa.slabLists
open Go.RowKit Go.ChangeShapes Go.WideShapes

theorem open_slabs {H : Type} {enc : TypeId × Value → H} {W : World} {base : Nat} {v : Value} {d : DataW H} {p : List MemPlace}
    (hv : Value.okWide Try.prog W .any base 44 v) (h : DataW.Trod enc Try.prog W 0 (fun _ => true) true 44 v d p) :
    ∃ l : List (Int × Int), Rd encS 2 W v l ∧ (l.length ≤ maxLen ∧ ∀ s ∈ l, 0 ≤ s.2 ∧ s.2 ≤ 255) := by
  obtain ⟨l, h1, h2, h3⟩ := open_pairs Try.underlying44 Try.underlying29 cellsSlab rfl rfl (by kernel_rfl) (by kernel_rfl) Try.underlying3 Try.underlying5 hv h
  exact ⟨l, h1, h2, fun s hs => wf_u8 (h3 s hs).2⟩

set_option maxRecDepth 100000 in
set_option maxHeartbeats 1000000 in
theorem walk (v : Value) (l : List (Int × Int)) (W : World) (hr : Rd encS 2 W v l ∧ (l.length ≤ maxLen ∧ ∀ s ∈ l, 0 ≤ s.2 ∧ s.2 ≤ 255)) :
    Calls Try.prog 7 #[v] W fun e w' => e = .returned (.bool true) ∧ Below W.heap.size W w' := by
  obtain ⟨h, hm, hb⟩ := hr
  have hm' : l.length ≤ 9223372036854775807 := by simp only [maxLen] at hm; omega
  have h' := h
  obtain ⟨A, c, rfl, hc, _⟩ := h
  by_cases hl : 60 < l.length
  · go_enter Try.func7, Try.ntmps7
    go_wp2_with fail
    refine (awake_any _).mono ?_
    rintro e w13 ⟨rfl, hb13⟩
    go_wp2
    go_ret
    exact ⟨rfl, hb13⟩
  · go_enter Try.func7, Try.ntmps7
    go_wp2_with fail
    refine (sCheckList_any _ l _ h' (by omega)).mono ?_
    rintro e w1 ⟨rfl, hb1⟩
    go_wp2_with fail
    refine (rsCheckList_any _ l _ (h'.keep hb1) (by omega)).mono ?_
    rintro e w2 ⟨rfl, hb2'⟩
    have hb2 := b_then hb1 hb2'
    go_wp2_with fail
    refine (First_any _ l _ (h'.keep hb2) (by omega)).mono ?_
    rintro e w3 ⟨rfl, hb3'⟩
    have hb3 := b_then hb2 hb3'
    go_wp2_with fail
    refine (rFirst_any _ l _ (h'.keep hb3) (by omega) hb).mono ?_
    rintro e w4 ⟨rfl, hb4'⟩
    have hb4 := b_then hb3 hb4'
    go_wp2_with fail
    refine (Total_any _ l _ (h'.keep hb4) (by omega) hb).mono ?_
    rintro e w5 ⟨rfl, hb5'⟩
    have hb5 := b_then hb4 hb5'
    go_wp2_with fail
    refine (rTotal_any _ l _ (h'.keep hb5) (by omega) hb).mono ?_
    rintro e w6 ⟨rfl, hb6'⟩
    have hb6 := b_then hb5 hb6'
    go_wp2_with fail
    refine (awake_any _).mono ?_
    rintro e w13 ⟨rfl, hb13⟩
    go_wp2
    go_ret
    exact ⟨rfl, b_then hb6 hb13⟩
end Go.Proofs.Ytimmmhfcfocjdaa.slabLists
