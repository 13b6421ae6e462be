/- The walk of OrderLists, from the engine's run of it. -/
import Derived.Test.YtdgeahemjcopkaaOrdZ
import Derived.Test.YtdgeahemjcopkaaOpen2
set_option linter.unusedSimpArgs false
set_option linter.unusedVariables false
namespace Go.Proofs.Ytdgeahemjcopkaa.orderLists
open Go.RowKit Go.ChangeShapes Go.WideShapes

theorem open_blocks {H : Type} {enc : TypeId × Value → H} {W : World} {base : Nat} {v : Value} {d : DataW H} {p : List MemPlace}
    (hv : Value.okWide Try.prog W .any base 22 v) (h : DataW.Trod enc Try.prog W 0 (fun _ => true) true 22 v d p) :
    ∃ l : List (Int × Int), Rd encB 2 W v l ∧ ∀ b ∈ l, b.1 ≤ 9223372036854775807 := by
  obtain ⟨l, h1, h2, h3⟩ := open_pairs Try.underlying22 Try.underlying30 cellsBlock rfl rfl (by kernel_rfl) (by kernel_rfl) Try.underlying3 Try.underlying3 hv h
  exact ⟨l, h1, fun s hs => (wf_bd (h3 s hs).1).2⟩

theorem walk (v : Value) (l : List (Int × Int)) (W : World) (hr : Rd encB 2 W v l ∧ ∀ b ∈ l, b.1 ≤ 9223372036854775807) :
    Calls Try.prog 8 #[v] W fun e w' => e = .returned (.bool true) ∧ Below W.heap.size W w' := by
  refine law_calls lists_ok [.d (.sl (l.map encDB))] W #[v] ⟨l, hr.2, rfl, rfl, rfl, rfl⟩ rfl (fun j x u hx hu => ?_)
  match j, hx, hu with
  | 0, hx, hu =>
    simp at hx hu
    subst hx hu
    exact .d (rd_data (encD := encDB) (fun _ => rfl) (fun _ => rfl) encB_sc hr.1)
end Go.Proofs.Ytdgeahemjcopkaa.orderLists
