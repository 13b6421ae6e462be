/- Opening the laws' arguments: a slab by value, a slice of slabs. -/
import Derived.Test.YtimmmhfcfocjdaaSlabE
import Derived.Test.YtimmmhfcfocjdaaFrame
import Derived.Lib.SmallJoins
set_option linter.unusedSimpArgs false
set_option linter.unusedVariables false
namespace Go.Proofs.Ytimmmhfcfocjdaa
open Go.RowKit Go.ChangeShapes Go.WideShapes Go.ChangeAt Go.Joins Go.Deep

theorem cellsSlab : Try.prog.cellsOf 29 = 2 := by kernel_rfl

theorem wf_bd {n : Int} (h : (Lit.int .i64 n).wf = true) : -9223372036854775808 ≤ n ∧ n ≤ 9223372036854775807 := by
  simpa [Lit.wf, IntKind.min, IntKind.max, IntKind.signed, IntKind.bits] using h
theorem wf_u8 {n : Int} (h : (Lit.int .u8 n).wf = true) : 0 ≤ n ∧ n ≤ 255 := by
  simpa [Lit.wf, IntKind.min, IntKind.max, IntKind.signed, IntKind.bits] using h

theorem open_slab {H : Type} {enc : TypeId × Value → H} {W : World} {base : Nat} {v : Value} {d : DataW H} {p : List MemPlace}
    (hv : Value.okWide Try.prog W .any base 29 v) (h : DataW.Trod enc Try.prog W 0 (fun _ => true) true 29 v d p) :
    ∃ x : Int × Int, v = .agg #[.int .i64 x.1, .int .u8 x.2] ∧ 0 ≤ x.2 ∧ x.2 ≤ 255 := by
  obtain ⟨c0, c1, y0, y1, m, rfl, rfl, rfl, hy0, hy1⟩ := open_agg2 Try.underlying29 (by kernel_rfl) cellsSlab hv h
  obtain ⟨a, e0, _, wa⟩ := DataW.trod_int Try.underlying3 hy0
  obtain ⟨b, e1, _, wb⟩ := DataW.trod_int Try.underlying5 hy1
  simp at e0 e1
  subst e0 e1
  exact ⟨(a, b), rfl, wf_u8 wb⟩

def objsA (f u : Int) : List Int := if schk f = 0 then objs f u else []
theorem objsA_len (f u : Int) : (objsA f u).length ≤ 8 := by
  unfold objsA
  split
  · rw [objs, List.length_map]; exact plcs_le u
  · simp
theorem Objects_any (f u : Int) (w : World) (h0 : 0 ≤ u) (h1 : u ≤ 255) :
    Calls Try.prog 25 #[.agg #[.int .i64 f, .int .u8 u]] w fun e w' => ∃ v, e = .returned (.tuple #[v, .int .i64 (schk f)]) ∧ Rd encI 1 w' v (objsA f u) ∧ Below w.heap.size w w' := by
  by_cases hc : schk f = 0
  · obtain ⟨g0, g1⟩ := schk_zero hc
    rw [hc, objsA, if_pos hc]
    exact Objects_ok f u w g0 g1 h0 h1
  · rw [objsA, if_neg hc]
    exact (Objects_no f u w hc).mono fun e w' ⟨he, hb⟩ => ⟨_, he, Rd.nil, hb⟩
theorem rObjects_any (f u : Int) (w : World) (h0 : 0 ≤ u) (h1 : u ≤ 255) :
    Calls Try.prog 26 #[.agg #[.int .i64 f, .int .u8 u]] w fun e w' => ∃ v, e = .returned (.tuple #[v, .int .i64 (schk f)]) ∧ Rd encI 1 w' v (objsA f u) ∧ Below w.heap.size w w' := by
  by_cases hc : schk f = 0
  · obtain ⟨g0, g1⟩ := schk_zero hc
    rw [hc, objsA, if_pos hc]
    exact rObjects_ok f u w g0 g1 h0 h1
  · rw [objsA, if_neg hc]
    exact (rObjects_no f u w hc).mono fun e w' ⟨he, hb⟩ => ⟨_, he, Rd.nil, hb⟩
end Go.Proofs.Ytimmmhfcfocjdaa
