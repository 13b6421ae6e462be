/-
  No cell of these rows narrows 'for every input' (looked for: loops, veiled, ifaces, maps, wideKeys, modest, calm, conditions, laid).
  DERIVED. THE GIVEN ROWS OF THIS SEAT. 8 by the template 'for every input the law returns true; each argument reads behind the call as it read before'; 0 by the template 'total and deterministic' (their statements: YtdgeahemjcopkaaTotals.lean).
  GIVEN WITH THE SEED: the statements are not yours to turn. If you find one false, say at which input.
  Laid BY PROGRAM, IN A SANDBOX (cutbox-rows.mjs): the forced cells as the released guide's own fill.sh prints them over the translation cf692bbc51ddab53… (all of the seat's roots in one cut). By AI agents, Wed Nov 11 2026. No macro, syntax, notation, axiom, sorry.
-/
import Derived.Test.YtdgeahemjcopkaaChecked
import GoSem.Claim
import GoSem.ClaimJoined
import GoSem.ClaimMapViews
import Derived.JoinedTies
import Derived.KernelRfl
namespace Go.Proofs.Ytdgeahemjcopkaa
/- THE CELL 'sum', in the pinned program and in every row, IS THE sha256 OF THE DUMP (.gsa) THAT YtdgeahemjcopkaaProg.lean LOADS. Nothing in Lean hashes anything: it is a label: what it is worth is what the hold of that sum in a sandbox is worth. -/
noncomputable def Try.pinned : Pinned := { name := "ytdgeahemjcopkaa", sum := "cf692bbc51ddab53c2b848c4d6a4ba2e4c53e15c9e394bc6515020da4508c5e6", checked := Try.checked }
namespace Rows
def none {H : Type} : Left H := { results := [], args := [] }

/-- 'headgatelaw08.OrderCuts': WHATEVER THE INPUT: true; the input reads as it did. -/
def orderCutsSpec : ChangeSpec := { name := "orderCuts", fn := fun _ => fun
  | [d1, d2] => { results := [.lit (.bool true)], args := [d1, d2] }
  | _ => none }
def orderCutsRow : OpenClaim := { program := "ytdgeahemjcopkaa", sum := "cf692bbc51ddab53c2b848c4d6a4ba2e4c53e15c9e394bc6515020da4508c5e6", func := "headgate/headgatelaw08.OrderCuts", spec := "orderCuts", apart := false }
def OrderCutsSaid : Prop := orderCutsRow.holds Try.pinned (OpenSpec.ofChange orderCutsSpec)

/-- ITS FALSE NEIGHBOUR: 'it returns false'. Refute it at one input. -/
def orderCutsWrong : ChangeSpec := { name := "orderCuts", fn := fun _ => fun
  | [d1, d2] => { results := [.lit (.bool false)], args := [d1, d2] }
  | _ => none }
def OrderCutsWrongFalsely : Prop := orderCutsRow.holds Try.pinned (OpenSpec.ofChange orderCutsWrong)

/-- 'headgatelaw08.OrderBlocks': WHATEVER THE INPUT: true; the input reads as it did. -/
def orderBlocksSpec : ChangeSpec := { name := "orderBlocks", fn := fun _ => fun
  | [d] => { results := [.lit (.bool true)], args := [d] }
  | _ => none }
def orderBlocksRow : OpenClaim := { program := "ytdgeahemjcopkaa", sum := "cf692bbc51ddab53c2b848c4d6a4ba2e4c53e15c9e394bc6515020da4508c5e6", func := "headgate/headgatelaw08.OrderBlocks", spec := "orderBlocks", apart := false }
def OrderBlocksSaid : Prop := orderBlocksRow.holds Try.pinned (OpenSpec.ofChange orderBlocksSpec)

/-- ITS FALSE NEIGHBOUR: 'it returns false'. Refute it at one input. -/
def orderBlocksWrong : ChangeSpec := { name := "orderBlocks", fn := fun _ => fun
  | [d] => { results := [.lit (.bool false)], args := [d] }
  | _ => none }
def OrderBlocksWrongFalsely : Prop := orderBlocksRow.holds Try.pinned (OpenSpec.ofChange orderBlocksWrong)

/-- 'headgatelaw08.OrderPairs': WHATEVER THE INPUT: true; the input reads as it did. -/
def orderPairsSpec : ChangeSpec := { name := "orderPairs", fn := fun _ => fun
  | [d1, d2] => { results := [.lit (.bool true)], args := [d1, d2] }
  | _ => none }
def orderPairsRow : OpenClaim := { program := "ytdgeahemjcopkaa", sum := "cf692bbc51ddab53c2b848c4d6a4ba2e4c53e15c9e394bc6515020da4508c5e6", func := "headgate/headgatelaw08.OrderPairs", spec := "orderPairs", unfollowed := true, recurses := true, apart := false }
def OrderPairsSaid : Prop := orderPairsRow.holds Try.pinned (OpenSpec.ofChange orderPairsSpec)

/-- ITS FALSE NEIGHBOUR: 'it returns false'. Refute it at one input. -/
def orderPairsWrong : ChangeSpec := { name := "orderPairs", fn := fun _ => fun
  | [d1, d2] => { results := [.lit (.bool false)], args := [d1, d2] }
  | _ => none }
def OrderPairsWrongFalsely : Prop := orderPairsRow.holds Try.pinned (OpenSpec.ofChange orderPairsWrong)

/-- 'headgatelaw08.OrderSizes': WHATEVER THE INPUT: true; the input reads as it did. -/
def orderSizesSpec : ChangeSpec := { name := "orderSizes", fn := fun _ => fun
  | [d1, d2] => { results := [.lit (.bool true)], args := [d1, d2] }
  | _ => none }
def orderSizesRow : OpenClaim := { program := "ytdgeahemjcopkaa", sum := "cf692bbc51ddab53c2b848c4d6a4ba2e4c53e15c9e394bc6515020da4508c5e6", func := "headgate/headgatelaw08.OrderSizes", spec := "orderSizes", apart := false }
def OrderSizesSaid : Prop := orderSizesRow.holds Try.pinned (OpenSpec.ofChange orderSizesSpec)

/-- ITS FALSE NEIGHBOUR: 'it returns false'. Refute it at one input. -/
def orderSizesWrong : ChangeSpec := { name := "orderSizes", fn := fun _ => fun
  | [d1, d2] => { results := [.lit (.bool false)], args := [d1, d2] }
  | _ => none }
def OrderSizesWrongFalsely : Prop := orderSizesRow.holds Try.pinned (OpenSpec.ofChange orderSizesWrong)

/-- 'headgatelaw08.OrderPowers': WHATEVER THE INPUT: true; the input reads as it did. -/
def orderPowersSpec : ChangeSpec := { name := "orderPowers", fn := fun _ => fun
  | [d] => { results := [.lit (.bool true)], args := [d] }
  | _ => none }
def orderPowersRow : OpenClaim := { program := "ytdgeahemjcopkaa", sum := "cf692bbc51ddab53c2b848c4d6a4ba2e4c53e15c9e394bc6515020da4508c5e6", func := "headgate/headgatelaw08.OrderPowers", spec := "orderPowers", apart := false }
def OrderPowersSaid : Prop := orderPowersRow.holds Try.pinned (OpenSpec.ofChange orderPowersSpec)

/-- ITS FALSE NEIGHBOUR: 'it returns false'. Refute it at one input. -/
def orderPowersWrong : ChangeSpec := { name := "orderPowers", fn := fun _ => fun
  | [d] => { results := [.lit (.bool false)], args := [d] }
  | _ => none }
def OrderPowersWrongFalsely : Prop := orderPowersRow.holds Try.pinned (OpenSpec.ofChange orderPowersWrong)

/-- 'headgatelaw08.OrderLists': WHATEVER THE INPUT: true; the input reads as it did. -/
def orderListsSpec : ChangeSpec := { name := "orderLists", fn := fun _ => fun
  | [d] => { results := [.lit (.bool true)], args := [d] }
  | _ => none }
def orderListsRow : OpenClaim := { program := "ytdgeahemjcopkaa", sum := "cf692bbc51ddab53c2b848c4d6a4ba2e4c53e15c9e394bc6515020da4508c5e6", func := "headgate/headgatelaw08.OrderLists", spec := "orderLists", unfollowed := true, recurses := true, apart := false }
def OrderListsSaid : Prop := orderListsRow.holds Try.pinned (OpenSpec.ofChange orderListsSpec)

/-- ITS FALSE NEIGHBOUR: 'it returns false'. Refute it at one input. -/
def orderListsWrong : ChangeSpec := { name := "orderLists", fn := fun _ => fun
  | [d] => { results := [.lit (.bool false)], args := [d] }
  | _ => none }
def OrderListsWrongFalsely : Prop := orderListsRow.holds Try.pinned (OpenSpec.ofChange orderListsWrong)

/-- 'headgatelaw08.OrderWhole': WHATEVER THE INPUT: true; the input reads as it did. -/
def orderWholeSpec : ChangeSpec := { name := "orderWhole", fn := fun _ => fun
  | [d1, d2, d3] => { results := [.lit (.bool true)], args := [d1, d2, d3] }
  | _ => none }
def orderWholeRow : OpenClaim := { program := "ytdgeahemjcopkaa", sum := "cf692bbc51ddab53c2b848c4d6a4ba2e4c53e15c9e394bc6515020da4508c5e6", func := "headgate/headgatelaw08.OrderWhole", spec := "orderWhole", unfollowed := true, recurses := true, apart := false }
def OrderWholeSaid : Prop := orderWholeRow.holds Try.pinned (OpenSpec.ofChange orderWholeSpec)

/-- ITS FALSE NEIGHBOUR: 'it returns false'. Refute it at one input. -/
def orderWholeWrong : ChangeSpec := { name := "orderWhole", fn := fun _ => fun
  | [d1, d2, d3] => { results := [.lit (.bool false)], args := [d1, d2, d3] }
  | _ => none }
def OrderWholeWrongFalsely : Prop := orderWholeRow.holds Try.pinned (OpenSpec.ofChange orderWholeWrong)

/-- 'headgatelaw08.OrderKnown': WHATEVER THE INPUT: true; the input reads as it did. -/
def orderKnownSpec : ChangeSpec := { name := "orderKnown", fn := fun _ => fun
  | [] => { results := [.lit (.bool true)], args := [] }
  | _ => none }
def orderKnownRow : OpenClaim := { program := "ytdgeahemjcopkaa", sum := "cf692bbc51ddab53c2b848c4d6a4ba2e4c53e15c9e394bc6515020da4508c5e6", func := "headgate/headgatelaw08.OrderKnown", spec := "orderKnown", apart := false }
def OrderKnownSaid : Prop := orderKnownRow.holds Try.pinned (OpenSpec.ofChange orderKnownSpec)

/-- ITS FALSE NEIGHBOUR: 'it returns false'. Refute it at one input. -/
def orderKnownWrong : ChangeSpec := { name := "orderKnown", fn := fun _ => fun
  | [] => { results := [.lit (.bool false)], args := [] }
  | _ => none }
def OrderKnownWrongFalsely : Prop := orderKnownRow.holds Try.pinned (OpenSpec.ofChange orderKnownWrong)

/- THE SECOND FORM. 'bulk': how many values and letters a reading holds, each counted each time it is reached (what is shared counts as often as it is met; a slice's spare places count too). A statement '..UptoSaid' is the law's where the arguments, and the package variables that the reading takes, are together of bulk at most 1048576: NARROWER than '..Said'. Prove '..Said' where nothing that the law and all that it calls make is longer than what came in: it says more and counts as full. Else prove '..UptoSaid'. A law counts once. -/
mutual
def uptoBulk {H : Type} : DataW H → Nat
  | .lit (.string bytes) => bytes.length + 1
  | .lit _ => 1
  | .nil => 1
  | .ptr d => uptoBulk d + 1
  | .slice elems spare => uptoBulkAll elems + uptoBulkAll spare + 1
  | .agg parts => uptoBulkAll parts + 1
  | .iface _ d => uptoBulk d + 1
  | .map entries => uptoBulkEntries entries + 1
  | .held _ => 1
def uptoBulkAll {H : Type} : List (DataW H) → Nat
  | [] => 0
  | d :: r => uptoBulk d + uptoBulkAll r
def uptoBulkEntries {H : Type} : List (Lit × DataW H) → Nat
  | [] => 0
  | x :: r => uptoBulkEntry x + uptoBulkEntries r
def uptoBulkEntry {H : Type} : Lit × DataW H → Nat
  | (.string bytes, d) => bytes.length + uptoBulk d + 1
  | (_, d) => uptoBulk d + 1
 end
def uptoSmall : (H : Type) → List (DataW H) → Bool := fun _ ds => decide (uptoBulkAll ds ≤ 1048576)
def OpenSpec.upto (s : _root_.Go.ChangeSpec) : _root_.Go.OpenSpec := { _root_.Go.OpenSpec.ofChange s with cond := some uptoSmall }

/-- 'headgatelaw08.OrderCuts', WHERE WHAT IT READS IS OF BULK AT MOST 1048576: true; the input reads as it did. -/
def orderCutsUptoRow : OpenClaim := { program := "ytdgeahemjcopkaa", sum := "cf692bbc51ddab53c2b848c4d6a4ba2e4c53e15c9e394bc6515020da4508c5e6", func := "headgate/headgatelaw08.OrderCuts", spec := "orderCuts", apart := false, narrowed := true }
def OrderCutsUptoSaid : Prop := orderCutsUptoRow.holds Try.pinned (OpenSpec.upto orderCutsSpec)

/-- 'headgatelaw08.OrderBlocks', WHERE WHAT IT READS IS OF BULK AT MOST 1048576: true; the input reads as it did. -/
def orderBlocksUptoRow : OpenClaim := { program := "ytdgeahemjcopkaa", sum := "cf692bbc51ddab53c2b848c4d6a4ba2e4c53e15c9e394bc6515020da4508c5e6", func := "headgate/headgatelaw08.OrderBlocks", spec := "orderBlocks", apart := false, narrowed := true }
def OrderBlocksUptoSaid : Prop := orderBlocksUptoRow.holds Try.pinned (OpenSpec.upto orderBlocksSpec)

/-- 'headgatelaw08.OrderPairs', WHERE WHAT IT READS IS OF BULK AT MOST 1048576: true; the input reads as it did. -/
def orderPairsUptoRow : OpenClaim := { program := "ytdgeahemjcopkaa", sum := "cf692bbc51ddab53c2b848c4d6a4ba2e4c53e15c9e394bc6515020da4508c5e6", func := "headgate/headgatelaw08.OrderPairs", spec := "orderPairs", unfollowed := true, recurses := true, apart := false, narrowed := true }
def OrderPairsUptoSaid : Prop := orderPairsUptoRow.holds Try.pinned (OpenSpec.upto orderPairsSpec)

/-- 'headgatelaw08.OrderSizes', WHERE WHAT IT READS IS OF BULK AT MOST 1048576: true; the input reads as it did. -/
def orderSizesUptoRow : OpenClaim := { program := "ytdgeahemjcopkaa", sum := "cf692bbc51ddab53c2b848c4d6a4ba2e4c53e15c9e394bc6515020da4508c5e6", func := "headgate/headgatelaw08.OrderSizes", spec := "orderSizes", apart := false, narrowed := true }
def OrderSizesUptoSaid : Prop := orderSizesUptoRow.holds Try.pinned (OpenSpec.upto orderSizesSpec)

/-- 'headgatelaw08.OrderPowers', WHERE WHAT IT READS IS OF BULK AT MOST 1048576: true; the input reads as it did. -/
def orderPowersUptoRow : OpenClaim := { program := "ytdgeahemjcopkaa", sum := "cf692bbc51ddab53c2b848c4d6a4ba2e4c53e15c9e394bc6515020da4508c5e6", func := "headgate/headgatelaw08.OrderPowers", spec := "orderPowers", apart := false, narrowed := true }
def OrderPowersUptoSaid : Prop := orderPowersUptoRow.holds Try.pinned (OpenSpec.upto orderPowersSpec)

/-- 'headgatelaw08.OrderLists', WHERE WHAT IT READS IS OF BULK AT MOST 1048576: true; the input reads as it did. -/
def orderListsUptoRow : OpenClaim := { program := "ytdgeahemjcopkaa", sum := "cf692bbc51ddab53c2b848c4d6a4ba2e4c53e15c9e394bc6515020da4508c5e6", func := "headgate/headgatelaw08.OrderLists", spec := "orderLists", unfollowed := true, recurses := true, apart := false, narrowed := true }
def OrderListsUptoSaid : Prop := orderListsUptoRow.holds Try.pinned (OpenSpec.upto orderListsSpec)

/-- 'headgatelaw08.OrderWhole', WHERE WHAT IT READS IS OF BULK AT MOST 1048576: true; the input reads as it did. -/
def orderWholeUptoRow : OpenClaim := { program := "ytdgeahemjcopkaa", sum := "cf692bbc51ddab53c2b848c4d6a4ba2e4c53e15c9e394bc6515020da4508c5e6", func := "headgate/headgatelaw08.OrderWhole", spec := "orderWhole", unfollowed := true, recurses := true, apart := false, narrowed := true }
def OrderWholeUptoSaid : Prop := orderWholeUptoRow.holds Try.pinned (OpenSpec.upto orderWholeSpec)

/-- 'headgatelaw08.OrderKnown', WHERE WHAT IT READS IS OF BULK AT MOST 1048576: true; the input reads as it did. -/
def orderKnownUptoRow : OpenClaim := { program := "ytdgeahemjcopkaa", sum := "cf692bbc51ddab53c2b848c4d6a4ba2e4c53e15c9e394bc6515020da4508c5e6", func := "headgate/headgatelaw08.OrderKnown", spec := "orderKnown", apart := false, narrowed := true }
def OrderKnownUptoSaid : Prop := orderKnownUptoRow.holds Try.pinned (OpenSpec.upto orderKnownSpec)

end Rows
end Go.Proofs.Ytdgeahemjcopkaa
