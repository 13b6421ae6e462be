/- Slices of ints; helpers of headgatekit over them. -/
import Derived.Test.YtokocigmchfdfaaRows
import Derived.Test.YtokocigmchfdfaaLib2
set_option linter.unusedSimpArgs false
set_option linter.unusedVariables false
namespace Go.Proofs.Ytokocigmchfdfaa
open Go.RowKit

def encI (x : Int) : List Value := [.int .i64 x]
theorem codedI : Coded encI 1 := ⟨fun _ => rfl, by intro x u hu; simp [encI] at hu; subst hu; rfl⟩
theorem infoI : (Try.prog.info? 3).map (fun i => (i.zero, i.size, i.bytes)) = some (some (.int .i64 0), 1, 8) := by kernel_rfl
theorem elemI : ElemT Try.prog 44 3 1 8 := elemT Try.underlying44 infoI rfl (by decide)

/-- an element's cells -/
theorem rd_get {α : Type} {enc : α → List Value} {sz : Nat} {w : World} {v : Value} {l : List α} (h : Rd enc sz w v l) :
    ∃ A c, v = .slice A l.length c ∧ l.length ≤ c ∧ ∀ k (hk : k < l.length), ∃ b off, A = some ⟨b, off, none⟩ ∧ b < w.heap.size ∧ ∀ j u, (enc l[k])[j]? = some u → w.cell? ⟨b, off + k * sz + j, none⟩ = some u := by
  obtain ⟨A, c, hv, hc, h⟩ := h
  refine ⟨A, c, hv, hc, fun k hk => ?_⟩
  obtain ⟨b, off, hA, hb, hx⟩ := h (by omega)
  exact ⟨b, off, hA, hb, fun j u hu => hx k _ (List.getElem?_eq_getElem hk) j u hu⟩

/-- an int's cell -/
theorem rd_int {w : World} {v : Value} {l : List Int} (h : Rd encI 1 w v l) :
    ∃ A c, v = .slice A l.length c ∧ l.length ≤ c ∧ ∀ k (hk : k < l.length), ∃ b off, A = some ⟨b, off, none⟩ ∧ b < w.heap.size ∧ w.cell? ⟨b, off + k, none⟩ = some (.int .i64 l[k]) := by
  obtain ⟨A, c, hv, hc, h⟩ := rd_get h
  refine ⟨A, c, hv, hc, fun k hk => ?_⟩
  obtain ⟨b, off, hA, hb, hx⟩ := h k hk
  refine ⟨b, off, hA, hb, ?_⟩
  have := hx 0 _ rfl
  simpa using this

theorem SameInts_true (v1 v2 : Value) (l : List Int) (w : World) (h1 : Rd encI 1 w v1 l) (h2 : Rd encI 1 w v2 l) (hl : l.length ≤ 9223372036854775807) :
    Calls Try.prog 35 #[v1, v2] w fun e w' => e = .returned (.bool true) ∧ ∃ n, w' = w.drewN n := by
  obtain ⟨A1, c1, rfl, hc1, h1⟩ := rd_int h1
  obtain ⟨A2, c2, rfl, hc2, h2⟩ := rd_int h2
  go_enter Try.func35, Try.ntmps35
  go_wp2
  go_loopw [5] (fun i wr => ∃ k n : Nat, k ≤ l.length ∧ i = .int .i64 k ∧ wr = w.drewN n) (fun i _ => l.length - (intOf i).toNat)
  case atStart => exact ⟨0, 0, Nat.zero_le _, rfl, rfl⟩
  case round =>
    obtain ⟨k, n, hk, rfl, rfl⟩ := hrel
    by_cases hlt : k < l.length
    · obtain ⟨b1, o1, rfl, hb1, p0⟩ := h1 k hlt
      obtain ⟨b2, o2, rfl, hb2, q0⟩ := h2 k hlt
      clear h1 h2
      generalize l[k] = x at *
      go_wp2
      go_quiet (fail)
      go_wp2
      go_roundw
      case rel => exact ⟨k + 1, n + nq, by omega, by go_num, by simp⟩
      case measure => simp [intOf]; omega
    · go_wp2
      go_ret
      exact ⟨rfl, n, rfl⟩
end Go.Proofs.Ytokocigmchfdfaa
