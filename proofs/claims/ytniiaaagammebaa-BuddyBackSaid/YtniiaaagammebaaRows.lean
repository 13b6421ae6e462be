/-
  No cell of these rows narrows 'for every input' (looked for: loops, veiled, ifaces, maps, wideKeys, modest, calm, conditions, laid).
  DERIVED. THE GIVEN ROWS OF THIS SEAT. 6 by the template 'for every input the law returns true; each argument reads behind the call as it read before'; 0 by the template 'total and deterministic' (their statements: YtniiaaagammebaaTotals.lean).
  GIVEN WITH THE SEED: the statements are not yours to turn. If you find one false, say at which input.
  Laid BY PROGRAM, IN A SANDBOX (cutbox-rows.mjs): the forced cells as the released guide's own fill.sh prints them over the translation 6f651b5bf30468a6… (all of the seat's roots in one cut). By AI agents, Wed Nov 11 2026. No macro, syntax, notation, axiom, sorry.
-/
import Derived.Test.YtniiaaagammebaaChecked
import GoSem.Claim
import GoSem.ClaimJoined
import GoSem.ClaimMapViews
import Derived.JoinedTies
import Derived.KernelRfl
namespace Go.Proofs.Ytniiaaagammebaa
/- THE CELL 'sum', in the pinned program and in every row, IS THE sha256 OF THE DUMP (.gsa) THAT YtniiaaagammebaaProg.lean LOADS. Nothing in Lean hashes anything: it is a label: what it is worth is what the hold of that sum in a sandbox is worth. -/
noncomputable def Try.pinned : Pinned := { name := "ytniiaaagammebaa", sum := "6f651b5bf30468a6b6a7457f0525667177bfb7e23e0a2332f3b385bf6151cdd6", checked := Try.checked }
namespace Rows
def none {H : Type} : Left H := { results := [], args := [] }

/-- 'headgatelaw09.BuddyChanges': WHATEVER THE INPUT: true; the input reads as it did. -/
def buddyChangesSpec : ChangeSpec := { name := "buddyChanges", fn := fun _ => fun
  | [d1, d2, d3] => { results := [.lit (.bool true)], args := [d1, d2, d3] }
  | _ => none }
def buddyChangesRow : OpenClaim := { program := "ytniiaaagammebaa", sum := "6f651b5bf30468a6b6a7457f0525667177bfb7e23e0a2332f3b385bf6151cdd6", func := "headgate/headgatelaw09.BuddyChanges", spec := "buddyChanges", inPlace := ["slices.overlaps[uint8]"], unfollowed := true, recurses := true, apart := false }
def BuddyChangesSaid : Prop := buddyChangesRow.holds Try.pinned (OpenSpec.ofChange buddyChangesSpec)

/-- ITS FALSE NEIGHBOUR: 'it returns false'. Refute it at one input. -/
def buddyChangesWrong : ChangeSpec := { name := "buddyChanges", fn := fun _ => fun
  | [d1, d2, d3] => { results := [.lit (.bool false)], args := [d1, d2, d3] }
  | _ => none }
def BuddyChangesWrongFalsely : Prop := buddyChangesRow.holds Try.pinned (OpenSpec.ofChange buddyChangesWrong)

/-- 'headgatelaw09.BuddyChecks': WHATEVER THE INPUT: true; the input reads as it did. -/
def buddyChecksSpec : ChangeSpec := { name := "buddyChecks", fn := fun _ => fun
  | [d1, d2, d3] => { results := [.lit (.bool true)], args := [d1, d2, d3] }
  | _ => none }
def buddyChecksRow : OpenClaim := { program := "ytniiaaagammebaa", sum := "6f651b5bf30468a6b6a7457f0525667177bfb7e23e0a2332f3b385bf6151cdd6", func := "headgate/headgatelaw09.BuddyChecks", spec := "buddyChecks", inPlace := ["slices.overlaps[uint8]"], unfollowed := true, recurses := true, apart := false }
def BuddyChecksSaid : Prop := buddyChecksRow.holds Try.pinned (OpenSpec.ofChange buddyChecksSpec)

/-- ITS FALSE NEIGHBOUR: 'it returns false'. Refute it at one input. -/
def buddyChecksWrong : ChangeSpec := { name := "buddyChecks", fn := fun _ => fun
  | [d1, d2, d3] => { results := [.lit (.bool false)], args := [d1, d2, d3] }
  | _ => none }
def BuddyChecksWrongFalsely : Prop := buddyChecksRow.holds Try.pinned (OpenSpec.ofChange buddyChecksWrong)

/-- 'headgatelaw09.BuddyKnown': WHATEVER THE INPUT: true; the input reads as it did. -/
def buddyKnownSpec : ChangeSpec := { name := "buddyKnown", fn := fun _ => fun
  | [] => { results := [.lit (.bool true)], args := [] }
  | _ => none }
def buddyKnownRow : OpenClaim := { program := "ytniiaaagammebaa", sum := "6f651b5bf30468a6b6a7457f0525667177bfb7e23e0a2332f3b385bf6151cdd6", func := "headgate/headgatelaw09.BuddyKnown", spec := "buddyKnown", inPlace := ["slices.overlaps[uint8]"], unfollowed := true, recurses := true, apart := false }
def BuddyKnownSaid : Prop := buddyKnownRow.holds Try.pinned (OpenSpec.ofChange buddyKnownSpec)

/-- ITS FALSE NEIGHBOUR: 'it returns false'. Refute it at one input. -/
def buddyKnownWrong : ChangeSpec := { name := "buddyKnown", fn := fun _ => fun
  | [] => { results := [.lit (.bool false)], args := [] }
  | _ => none }
def BuddyKnownWrongFalsely : Prop := buddyKnownRow.holds Try.pinned (OpenSpec.ofChange buddyKnownWrong)

/-- 'headgatelaw09.BuddyBack': WHATEVER THE INPUT: true; the input reads as it did. -/
def buddyBackSpec : ChangeSpec := { name := "buddyBack", fn := fun _ => fun
  | [d1, d2, d3, d4] => { results := [.lit (.bool true)], args := [d1, d2, d3, d4] }
  | _ => none }
def buddyBackRow : OpenClaim := { program := "ytniiaaagammebaa", sum := "6f651b5bf30468a6b6a7457f0525667177bfb7e23e0a2332f3b385bf6151cdd6", func := "headgate/headgatelaw09.BuddyBack", spec := "buddyBack", inPlace := ["slices.overlaps[uint8]"], unfollowed := true, recurses := true, apart := false }
def BuddyBackSaid : Prop := buddyBackRow.holds Try.pinned (OpenSpec.ofChange buddyBackSpec)

/-- ITS FALSE NEIGHBOUR: 'it returns false'. Refute it at one input. -/
def buddyBackWrong : ChangeSpec := { name := "buddyBack", fn := fun _ => fun
  | [d1, d2, d3, d4] => { results := [.lit (.bool false)], args := [d1, d2, d3, d4] }
  | _ => none }
def BuddyBackWrongFalsely : Prop := buddyBackRow.holds Try.pinned (OpenSpec.ofChange buddyBackWrong)

/-- 'headgatelaw09.BuddySwaps': WHATEVER THE INPUT: true; the input reads as it did. -/
def buddySwapsSpec : ChangeSpec := { name := "buddySwaps", fn := fun _ => fun
  | [d1, d2, d3, d4] => { results := [.lit (.bool true)], args := [d1, d2, d3, d4] }
  | _ => none }
def buddySwapsRow : OpenClaim := { program := "ytniiaaagammebaa", sum := "6f651b5bf30468a6b6a7457f0525667177bfb7e23e0a2332f3b385bf6151cdd6", func := "headgate/headgatelaw09.BuddySwaps", spec := "buddySwaps", inPlace := ["slices.overlaps[uint8]"], unfollowed := true, recurses := true, apart := false }
def BuddySwapsSaid : Prop := buddySwapsRow.holds Try.pinned (OpenSpec.ofChange buddySwapsSpec)

/-- ITS FALSE NEIGHBOUR: 'it returns false'. Refute it at one input. -/
def buddySwapsWrong : ChangeSpec := { name := "buddySwaps", fn := fun _ => fun
  | [d1, d2, d3, d4] => { results := [.lit (.bool false)], args := [d1, d2, d3, d4] }
  | _ => none }
def BuddySwapsWrongFalsely : Prop := buddySwapsRow.holds Try.pinned (OpenSpec.ofChange buddySwapsWrong)

/-- 'headgatelaw09.BuddyGives': WHATEVER THE INPUT: true; the input reads as it did. -/
def buddyGivesSpec : ChangeSpec := { name := "buddyGives", fn := fun _ => fun
  | [d1, d2] => { results := [.lit (.bool true)], args := [d1, d2] }
  | _ => none }
def buddyGivesRow : OpenClaim := { program := "ytniiaaagammebaa", sum := "6f651b5bf30468a6b6a7457f0525667177bfb7e23e0a2332f3b385bf6151cdd6", func := "headgate/headgatelaw09.BuddyGives", spec := "buddyGives", inPlace := ["slices.overlaps[uint8]"], unfollowed := true, recurses := true, apart := false }
def BuddyGivesSaid : Prop := buddyGivesRow.holds Try.pinned (OpenSpec.ofChange buddyGivesSpec)

/-- ITS FALSE NEIGHBOUR: 'it returns false'. Refute it at one input. -/
def buddyGivesWrong : ChangeSpec := { name := "buddyGives", fn := fun _ => fun
  | [d1, d2] => { results := [.lit (.bool false)], args := [d1, d2] }
  | _ => none }
def BuddyGivesWrongFalsely : Prop := buddyGivesRow.holds Try.pinned (OpenSpec.ofChange buddyGivesWrong)

/- THE SECOND FORM. 'bulk': how many values and letters a reading holds, each counted each time it is reached (what is shared counts as often as it is met; a slice's spare places count too). A statement '..UptoSaid' is the law's where the arguments, and the package variables that the reading takes, are together of bulk at most 1048576: NARROWER than '..Said'. Prove '..Said' where nothing that the law and all that it calls make is longer than what came in: it says more and counts as full. Else prove '..UptoSaid'. A law counts once. -/
mutual
def uptoBulk {H : Type} : DataW H → Nat
  | .lit (.string bytes) => bytes.length + 1
  | .lit _ => 1
  | .nil => 1
  | .ptr d => uptoBulk d + 1
  | .slice elems spare => uptoBulkAll elems + uptoBulkAll spare + 1
  | .agg parts => uptoBulkAll parts + 1
  | .iface _ d => uptoBulk d + 1
  | .map entries => uptoBulkEntries entries + 1
  | .held _ => 1
def uptoBulkAll {H : Type} : List (DataW H) → Nat
  | [] => 0
  | d :: r => uptoBulk d + uptoBulkAll r
def uptoBulkEntries {H : Type} : List (Lit × DataW H) → Nat
  | [] => 0
  | x :: r => uptoBulkEntry x + uptoBulkEntries r
def uptoBulkEntry {H : Type} : Lit × DataW H → Nat
  | (.string bytes, d) => bytes.length + uptoBulk d + 1
  | (_, d) => uptoBulk d + 1
 end
def uptoSmall : (H : Type) → List (DataW H) → Bool := fun _ ds => decide (uptoBulkAll ds ≤ 1048576)
def OpenSpec.upto (s : _root_.Go.ChangeSpec) : _root_.Go.OpenSpec := { _root_.Go.OpenSpec.ofChange s with cond := some uptoSmall }

/-- 'headgatelaw09.BuddyChanges', WHERE WHAT IT READS IS OF BULK AT MOST 1048576: true; the input reads as it did. -/
def buddyChangesUptoRow : OpenClaim := { program := "ytniiaaagammebaa", sum := "6f651b5bf30468a6b6a7457f0525667177bfb7e23e0a2332f3b385bf6151cdd6", func := "headgate/headgatelaw09.BuddyChanges", spec := "buddyChanges", inPlace := ["slices.overlaps[uint8]"], unfollowed := true, recurses := true, apart := false, narrowed := true }
def BuddyChangesUptoSaid : Prop := buddyChangesUptoRow.holds Try.pinned (OpenSpec.upto buddyChangesSpec)

/-- 'headgatelaw09.BuddyChecks', WHERE WHAT IT READS IS OF BULK AT MOST 1048576: true; the input reads as it did. -/
def buddyChecksUptoRow : OpenClaim := { program := "ytniiaaagammebaa", sum := "6f651b5bf30468a6b6a7457f0525667177bfb7e23e0a2332f3b385bf6151cdd6", func := "headgate/headgatelaw09.BuddyChecks", spec := "buddyChecks", inPlace := ["slices.overlaps[uint8]"], unfollowed := true, recurses := true, apart := false, narrowed := true }
def BuddyChecksUptoSaid : Prop := buddyChecksUptoRow.holds Try.pinned (OpenSpec.upto buddyChecksSpec)

/-- 'headgatelaw09.BuddyKnown', WHERE WHAT IT READS IS OF BULK AT MOST 1048576: true; the input reads as it did. -/
def buddyKnownUptoRow : OpenClaim := { program := "ytniiaaagammebaa", sum := "6f651b5bf30468a6b6a7457f0525667177bfb7e23e0a2332f3b385bf6151cdd6", func := "headgate/headgatelaw09.BuddyKnown", spec := "buddyKnown", inPlace := ["slices.overlaps[uint8]"], unfollowed := true, recurses := true, apart := false, narrowed := true }
def BuddyKnownUptoSaid : Prop := buddyKnownUptoRow.holds Try.pinned (OpenSpec.upto buddyKnownSpec)

/-- 'headgatelaw09.BuddyBack', WHERE WHAT IT READS IS OF BULK AT MOST 1048576: true; the input reads as it did. -/
def buddyBackUptoRow : OpenClaim := { program := "ytniiaaagammebaa", sum := "6f651b5bf30468a6b6a7457f0525667177bfb7e23e0a2332f3b385bf6151cdd6", func := "headgate/headgatelaw09.BuddyBack", spec := "buddyBack", inPlace := ["slices.overlaps[uint8]"], unfollowed := true, recurses := true, apart := false, narrowed := true }
def BuddyBackUptoSaid : Prop := buddyBackUptoRow.holds Try.pinned (OpenSpec.upto buddyBackSpec)

/-- 'headgatelaw09.BuddySwaps', WHERE WHAT IT READS IS OF BULK AT MOST 1048576: true; the input reads as it did. -/
def buddySwapsUptoRow : OpenClaim := { program := "ytniiaaagammebaa", sum := "6f651b5bf30468a6b6a7457f0525667177bfb7e23e0a2332f3b385bf6151cdd6", func := "headgate/headgatelaw09.BuddySwaps", spec := "buddySwaps", inPlace := ["slices.overlaps[uint8]"], unfollowed := true, recurses := true, apart := false, narrowed := true }
def BuddySwapsUptoSaid : Prop := buddySwapsUptoRow.holds Try.pinned (OpenSpec.upto buddySwapsSpec)

/-- 'headgatelaw09.BuddyGives', WHERE WHAT IT READS IS OF BULK AT MOST 1048576: true; the input reads as it did. -/
def buddyGivesUptoRow : OpenClaim := { program := "ytniiaaagammebaa", sum := "6f651b5bf30468a6b6a7457f0525667177bfb7e23e0a2332f3b385bf6151cdd6", func := "headgate/headgatelaw09.BuddyGives", spec := "buddyGives", inPlace := ["slices.overlaps[uint8]"], unfollowed := true, recurses := true, apart := false, narrowed := true }
def BuddyGivesUptoSaid : Prop := buddyGivesUptoRow.holds Try.pinned (OpenSpec.upto buddyGivesSpec)

end Rows
end Go.Proofs.Ytniiaaagammebaa
