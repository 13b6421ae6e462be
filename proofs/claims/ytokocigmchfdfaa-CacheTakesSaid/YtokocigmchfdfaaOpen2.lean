/- Opening an argument that is a slice of structs of two ints, or of ints. -/
import Derived.Test.YtokocigmchfdfaaFrame
import Derived.Test.YtokocigmchfdfaaInts
import Derived.Deep.SlicePairs
set_option linter.unusedSimpArgs false
set_option linter.unusedVariables false
namespace Go.Proofs.Ytokocigmchfdfaa
open Go.RowKit Go.ChangeShapes Go.WideShapes Go.ChangeAt Go.Deep

def encP (k0 k1 : IntKind) (x : Int × Int) : List Value := [.int k0 x.1, .int k1 x.2]

theorem addr_eq {a : Addr} {n : Nat} (h : a.spot = none) : a.add n = ⟨a.block, a.off + n, none⟩ := by
  obtain ⟨b, o, s⟩ := a
  simp only at h
  subst h
  unfold Addr.add
  split
  · rename_i h; subst h; rfl
  · rfl

theorem open_pairs {H : Type} {enc : TypeId × Value → H} {P : Program} {W : World} {base : Nat} {v : Value} {d : DataW H} {p : List MemPlace} {t e : TypeId} {f0 f1 : Field} {k0 k1 : IntKind}
    (ht : P.underlying t = some (.slice e)) (he : P.underlying e = some (.struct #[f0, f1])) (ce : P.cellsOf e = 2) (o0 : f0.offset = 0) (o1 : f1.offset = 1) (c0 : P.cellsOf f0.type = 1) (c1 : P.cellsOf f1.type = 1)
    (u0 : P.underlying f0.type = some (.int k0)) (u1 : P.underlying f1.type = some (.int k1))
    (hv : Value.okWide P W .any base t v) (h : DataW.Trod enc P W 0 (fun _ => true) true t v d p) :
    ∃ l : List (Int × Int), Rd (encP k0 k1) 2 W v l ∧ (l.length ≤ maxLen ∧ ∀ x ∈ l, (Lit.int k0 x.1).wf = true ∧ (Lit.int k1 x.2).wf = true) := by
  obtain ⟨A, len, cap, rfl⟩ := okWide_slice ht hv
  obtain ⟨fuel, hf⟩ := h
  rcases open_slice_pairs ht he ce o0 o1 c0 c1 hf with ⟨hcs, _⟩ | ⟨a, len', cap', m, n, V0, V1, D0, D1, P0, P1, hcs, _, hl, hm, hmm, _, hx⟩
  · simp [Value.cells] at hcs
    obtain ⟨rfl, rfl, rfl⟩ := hcs
    exact ⟨[], Rd.nil, by simp [maxLen], by simp⟩
  · simp [Value.cells] at hcs
    obtain ⟨rfl, rfl, rfl⟩ := hcs
    have hmle : len ≤ m := by rw [hmm]; split <;> omega
    have key : ∀ i, i < len → ∃ x : Int × Int, W.cell? (a.add (i * 2)) = some (.int k0 x.1) ∧ W.cell? (a.add (i * 2 + 1)) = some (.int k1 x.2) ∧ (Lit.int k0 x.1).wf = true ∧ (Lit.int k1 x.2).wf = true := by
      intro i hi
      obtain ⟨q0, q1, t0, t1⟩ := hx i (by omega)
      obtain ⟨y0, e0, _, w0⟩ := DataW.trod_int u0 t0
      obtain ⟨y1, e1, _, w1⟩ := DataW.trod_int u1 t1
      simp at e0 e1
      exact ⟨(y0, y1), by rw [q0, e0], by rw [q1, e1], w0, w1⟩
    have hex : ∃ l : List (Int × Int), l.length = len ∧ ∀ i x, l[i]? = some x → W.cell? (a.add (i * 2)) = some (.int k0 x.1) ∧ W.cell? (a.add (i * 2 + 1)) = some (.int k1 x.2) ∧ (Lit.int k0 x.1).wf = true ∧ (Lit.int k1 x.2).wf = true := by
      have : ∀ i : Fin len, ∃ x : Int × Int, W.cell? (a.add (i.1 * 2)) = some (.int k0 x.1) ∧ W.cell? (a.add (i.1 * 2 + 1)) = some (.int k1 x.2) ∧ (Lit.int k0 x.1).wf = true ∧ (Lit.int k1 x.2).wf = true := fun i => key i.1 i.2
      obtain ⟨f, hf⟩ := Classical.axiomOfChoice this
      refine ⟨List.ofFn f, by simp, fun i x hi => ?_⟩
      rw [List.getElem?_eq_some_iff] at hi
      obtain ⟨hi1, hi2⟩ := hi
      simp at hi1 hi2
      subst hi2
      exact hf ⟨i, hi1⟩
    obtain ⟨l, hlen, hall⟩ := hex
    subst hlen
    refine ⟨l, ⟨some a, cap, rfl, hl, fun h0 => ?_⟩, by omega, fun x hx => ?_⟩
    · have hz := (hall 0 _ (List.getElem?_eq_getElem h0)).1
      have hsp : a.spot = none := by simpa [Addr.add] using World.cell?_spot hz
      have hbl := World.block_lt_of_cell? _ _ hz
      rw [addr_eq hsp] at hbl
      refine ⟨a.block, a.off, by obtain ⟨b, o, s⟩ := a; simp only at hsp; subst hsp; rfl, hbl, fun i x hi j u hu => ?_⟩
      obtain ⟨q0, q1, _, _⟩ := hall i x hi
      rw [addr_eq hsp] at q0 q1
      match j, hu with
      | 0, hu => simp [encP] at hu; subst hu; simpa using q0
      | 1, hu => simp [encP] at hu; subst hu; simpa [Nat.add_assoc] using q1
      | j + 2, hu => simp [encP] at hu
    · obtain ⟨i, hi⟩ := List.getElem?_of_mem hx
      exact (hall i x hi).2.2
end Go.Proofs.Ytokocigmchfdfaa
