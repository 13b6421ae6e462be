/- Opening an argument that is a slice of ints. -/
import Derived.Test.YtokocigmchfdfaaOpen2
import Derived.ChangeSlices
set_option linter.unusedSimpArgs false
set_option linter.unusedVariables false
namespace Go.Proofs.Ytokocigmchfdfaa
open Go.RowKit Go.ChangeShapes Go.WideShapes Go.ChangeAt Go.Deep

theorem open_intl {H : Type} {enc : TypeId × Value → H} {P : Program} {W : World} {base : Nat} {v : Value} {d : DataW H} {p : List MemPlace} {t e : TypeId}
    (ht : P.underlying t = some (.slice e)) (he : P.underlying e = some (.int .i64)) (ce : P.cellsOf e = 1)
    (hv : Value.okWide P W .any base t v) (h : DataW.Trod enc P W 0 (fun _ => true) true t v d p) :
    ∃ l : List Int, Rd encI 1 W v l ∧ (l.length ≤ maxLen ∧ ∀ x ∈ l, (Lit.int .i64 x).wf = true) := by
  obtain ⟨A, len, cap, rfl⟩ := okWide_slice ht hv
  obtain ⟨fuel, hf⟩ := h
  rcases Go.ChangeShapes.open_ints ht he ce hf with ⟨hcs, _⟩ | ⟨a, len', cap', zs, hcs, _, hl, hm, hmm, _, hx, hw⟩
  · simp [Value.cells] at hcs
    obtain ⟨rfl, rfl, rfl⟩ := hcs
    exact ⟨[], Rd.nil, by simp [maxLen], by simp⟩
  · simp [Value.cells] at hcs
    obtain ⟨rfl, rfl, rfl⟩ := hcs
    have hmle : len ≤ zs.length := by rw [hmm]; split <;> omega
    have hlen : (zs.take len).length = len := by simp; omega
    refine ⟨zs.take len, ⟨some a, cap, by rw [hlen], by rw [hlen]; exact hl, fun h0 => ?_⟩, by omega, fun x hx => hw x (List.mem_of_mem_take hx)⟩
    rw [hlen] at h0
    have hz := hx 0 (by omega)
    have hsp : a.spot = none := by simpa [Addr.add] using World.cell?_spot hz
    have hbl := World.block_lt_of_cell? _ _ hz
    rw [addr_eq hsp] at hbl
    refine ⟨a.block, a.off, by obtain ⟨b, o, s⟩ := a; simp only at hsp; subst hsp; rfl, hbl, fun i x hi j u hu => ?_⟩
    rw [List.getElem?_take] at hi
    split at hi
    · have q := hx i (List.getElem?_eq_some_iff.1 hi).1
      rw [addr_eq hsp, List.getD_eq_getElem?_getD, hi] at q
      match j, hu with
      | 0, hu => simp [encI] at hu; subst hu; simpa using q
      | j + 1, hu => simp [encI] at hu
    · cases hi
end Go.Proofs.Ytokocigmchfdfaa
