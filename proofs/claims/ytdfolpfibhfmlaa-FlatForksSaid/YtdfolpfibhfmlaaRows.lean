/-
  No cell of these rows narrows 'for every input' (looked for: loops, veiled, ifaces, maps, wideKeys, modest, calm, conditions, laid).
  DERIVED. THE GIVEN ROWS OF THIS SEAT. 7 by the template 'for every input the law returns true; each argument reads behind the call as it read before'; 0 by the template 'total and deterministic' (their statements: YtdfolpfibhfmlaaTotals.lean).
  GIVEN WITH THE SEED: the statements are not yours to turn. If you find one false, say at which input.
  Laid BY PROGRAM, IN A SANDBOX (cutbox-rows.mjs): the forced cells as the released guide's own fill.sh prints them over the translation c48b0b1e66d53f0f… (all of the seat's roots in one cut). By AI agents, Wed Nov 11 2026. No macro, syntax, notation, axiom, sorry.
-/
import Derived.Test.YtdfolpfibhfmlaaChecked
import GoSem.Claim
import GoSem.ClaimJoined
import GoSem.ClaimMapViews
import Derived.JoinedTies
import Derived.KernelRfl
namespace Go.Proofs.Ytdfolpfibhfmlaa
/- THE CELL 'sum', in the pinned program and in every row, IS THE sha256 OF THE DUMP (.gsa) THAT YtdfolpfibhfmlaaProg.lean LOADS. Nothing in Lean hashes anything: it is a label: what it is worth is what the hold of that sum in a sandbox is worth. -/
noncomputable def Try.pinned : Pinned := { name := "ytdfolpfibhfmlaa", sum := "c48b0b1e66d53f0f4e12a07a0f846ad9abc7c8ebc31a11d97cfe7c4eba4bbae6", checked := Try.checked }
namespace Rows
def none {H : Type} : Left H := { results := [], args := [] }

/-- 'headgatelaw29.FlatWrites': WHATEVER THE INPUT: true; the input reads as it did. -/
def flatWritesSpec : ChangeSpec := { name := "flatWrites", fn := fun _ => fun
  | [d1, d2, d3, d4, d5] => { results := [.lit (.bool true)], args := [d1, d2, d3, d4, d5] }
  | _ => none }
def flatWritesRow : OpenClaim := { program := "ytdfolpfibhfmlaa", sum := "c48b0b1e66d53f0f4e12a07a0f846ad9abc7c8ebc31a11d97cfe7c4eba4bbae6", func := "headgate/headgatelaw29.FlatWrites", spec := "flatWrites", inPlace := ["maps.clone"], unfollowed := true, recurses := true, plainKeys := false, apart := false }
def FlatWritesSaid : Prop := flatWritesRow.holds Try.pinned (OpenSpec.ofChange flatWritesSpec)

/-- ITS FALSE NEIGHBOUR: 'it returns false'. Refute it at one input. -/
def flatWritesWrong : ChangeSpec := { name := "flatWrites", fn := fun _ => fun
  | [d1, d2, d3, d4, d5] => { results := [.lit (.bool false)], args := [d1, d2, d3, d4, d5] }
  | _ => none }
def FlatWritesWrongFalsely : Prop := flatWritesRow.holds Try.pinned (OpenSpec.ofChange flatWritesWrong)

/-- 'headgatelaw29.FlatReads': WHATEVER THE INPUT: true; the input reads as it did. -/
def flatReadsSpec : ChangeSpec := { name := "flatReads", fn := fun _ => fun
  | [d1, d2, d3, d4] => { results := [.lit (.bool true)], args := [d1, d2, d3, d4] }
  | _ => none }
def flatReadsRow : OpenClaim := { program := "ytdfolpfibhfmlaa", sum := "c48b0b1e66d53f0f4e12a07a0f846ad9abc7c8ebc31a11d97cfe7c4eba4bbae6", func := "headgate/headgatelaw29.FlatReads", spec := "flatReads", inPlace := ["maps.clone"], unfollowed := true, recurses := true, plainKeys := false, apart := false }
def FlatReadsSaid : Prop := flatReadsRow.holds Try.pinned (OpenSpec.ofChange flatReadsSpec)

/-- ITS FALSE NEIGHBOUR: 'it returns false'. Refute it at one input. -/
def flatReadsWrong : ChangeSpec := { name := "flatReads", fn := fun _ => fun
  | [d1, d2, d3, d4] => { results := [.lit (.bool false)], args := [d1, d2, d3, d4] }
  | _ => none }
def FlatReadsWrongFalsely : Prop := flatReadsRow.holds Try.pinned (OpenSpec.ofChange flatReadsWrong)

/-- 'headgatelaw29.FlatKnown': WHATEVER THE INPUT: true; the input reads as it did. -/
def flatKnownSpec : ChangeSpec := { name := "flatKnown", fn := fun _ => fun
  | [] => { results := [.lit (.bool true)], args := [] }
  | _ => none }
def flatKnownRow : OpenClaim := { program := "ytdfolpfibhfmlaa", sum := "c48b0b1e66d53f0f4e12a07a0f846ad9abc7c8ebc31a11d97cfe7c4eba4bbae6", func := "headgate/headgatelaw29.FlatKnown", spec := "flatKnown", inPlace := ["maps.clone"], unfollowed := true, recurses := true, plainKeys := false, apart := false }
def FlatKnownSaid : Prop := flatKnownRow.holds Try.pinned (OpenSpec.ofChange flatKnownSpec)

/-- ITS FALSE NEIGHBOUR: 'it returns false'. Refute it at one input. -/
def flatKnownWrong : ChangeSpec := { name := "flatKnown", fn := fun _ => fun
  | [] => { results := [.lit (.bool false)], args := [] }
  | _ => none }
def FlatKnownWrongFalsely : Prop := flatKnownRow.holds Try.pinned (OpenSpec.ofChange flatKnownWrong)

/-- 'headgatelaw29.FlatMaps': WHATEVER THE INPUT: true; the input reads as it did. -/
def flatMapsSpec : ChangeSpec := { name := "flatMaps", fn := fun _ => fun
  | [d1, d2, d3, d4] => { results := [.lit (.bool true)], args := [d1, d2, d3, d4] }
  | _ => none }
def flatMapsRow : OpenClaim := { program := "ytdfolpfibhfmlaa", sum := "c48b0b1e66d53f0f4e12a07a0f846ad9abc7c8ebc31a11d97cfe7c4eba4bbae6", func := "headgate/headgatelaw29.FlatMaps", spec := "flatMaps", inPlace := ["maps.clone"], unfollowed := true, recurses := true, plainKeys := false, apart := false }
def FlatMapsSaid : Prop := flatMapsRow.holds Try.pinned (OpenSpec.ofChange flatMapsSpec)

/-- ITS FALSE NEIGHBOUR: 'it returns false'. Refute it at one input. -/
def flatMapsWrong : ChangeSpec := { name := "flatMaps", fn := fun _ => fun
  | [d1, d2, d3, d4] => { results := [.lit (.bool false)], args := [d1, d2, d3, d4] }
  | _ => none }
def FlatMapsWrongFalsely : Prop := flatMapsRow.holds Try.pinned (OpenSpec.ofChange flatMapsWrong)

/-- 'headgatelaw29.FlatWrite': WHATEVER THE INPUT: true; the input reads as it did. -/
def flatWriteSpec : ChangeSpec := { name := "flatWrite", fn := fun _ => fun
  | [d1, d2, d3] => { results := [.lit (.bool true)], args := [d1, d2, d3] }
  | _ => none }
def flatWriteRow : OpenClaim := { program := "ytdfolpfibhfmlaa", sum := "c48b0b1e66d53f0f4e12a07a0f846ad9abc7c8ebc31a11d97cfe7c4eba4bbae6", func := "headgate/headgatelaw29.FlatWrite", spec := "flatWrite", inPlace := ["maps.clone"], unfollowed := true, recurses := true, plainKeys := false, apart := false }
def FlatWriteSaid : Prop := flatWriteRow.holds Try.pinned (OpenSpec.ofChange flatWriteSpec)

/-- ITS FALSE NEIGHBOUR: 'it returns false'. Refute it at one input. -/
def flatWriteWrong : ChangeSpec := { name := "flatWrite", fn := fun _ => fun
  | [d1, d2, d3] => { results := [.lit (.bool false)], args := [d1, d2, d3] }
  | _ => none }
def FlatWriteWrongFalsely : Prop := flatWriteRow.holds Try.pinned (OpenSpec.ofChange flatWriteWrong)

/-- 'headgatelaw29.FlatOrder': WHATEVER THE INPUT: true; the input reads as it did. -/
def flatOrderSpec : ChangeSpec := { name := "flatOrder", fn := fun _ => fun
  | [d1, d2, d3] => { results := [.lit (.bool true)], args := [d1, d2, d3] }
  | _ => none }
def flatOrderRow : OpenClaim := { program := "ytdfolpfibhfmlaa", sum := "c48b0b1e66d53f0f4e12a07a0f846ad9abc7c8ebc31a11d97cfe7c4eba4bbae6", func := "headgate/headgatelaw29.FlatOrder", spec := "flatOrder", inPlace := ["maps.clone"], unfollowed := true, recurses := true, plainKeys := false, apart := false }
def FlatOrderSaid : Prop := flatOrderRow.holds Try.pinned (OpenSpec.ofChange flatOrderSpec)

/-- ITS FALSE NEIGHBOUR: 'it returns false'. Refute it at one input. -/
def flatOrderWrong : ChangeSpec := { name := "flatOrder", fn := fun _ => fun
  | [d1, d2, d3] => { results := [.lit (.bool false)], args := [d1, d2, d3] }
  | _ => none }
def FlatOrderWrongFalsely : Prop := flatOrderRow.holds Try.pinned (OpenSpec.ofChange flatOrderWrong)

/-- 'headgatelaw29.FlatForks': WHATEVER THE INPUT: true; the input reads as it did. -/
def flatForksSpec : ChangeSpec := { name := "flatForks", fn := fun _ => fun
  | [d1, d2, d3] => { results := [.lit (.bool true)], args := [d1, d2, d3] }
  | _ => none }
def flatForksRow : OpenClaim := { program := "ytdfolpfibhfmlaa", sum := "c48b0b1e66d53f0f4e12a07a0f846ad9abc7c8ebc31a11d97cfe7c4eba4bbae6", func := "headgate/headgatelaw29.FlatForks", spec := "flatForks", inPlace := ["maps.clone"], unfollowed := true, recurses := true, plainKeys := false, apart := false }
def FlatForksSaid : Prop := flatForksRow.holds Try.pinned (OpenSpec.ofChange flatForksSpec)

/-- ITS FALSE NEIGHBOUR: 'it returns false'. Refute it at one input. -/
def flatForksWrong : ChangeSpec := { name := "flatForks", fn := fun _ => fun
  | [d1, d2, d3] => { results := [.lit (.bool false)], args := [d1, d2, d3] }
  | _ => none }
def FlatForksWrongFalsely : Prop := flatForksRow.holds Try.pinned (OpenSpec.ofChange flatForksWrong)

/- THE SECOND FORM. 'bulk': how many values and letters a reading holds, each counted each time it is reached (what is shared counts as often as it is met; a slice's spare places count too). A statement '..UptoSaid' is the law's where the arguments, and the package variables that the reading takes, are together of bulk at most 1048576: NARROWER than '..Said'. Prove '..Said' where nothing that the law and all that it calls make is longer than what came in: it says more and counts as full. Else prove '..UptoSaid'. A law counts once. -/
mutual
def uptoBulk {H : Type} : DataW H → Nat
  | .lit (.string bytes) => bytes.length + 1
  | .lit _ => 1
  | .nil => 1
  | .ptr d => uptoBulk d + 1
  | .slice elems spare => uptoBulkAll elems + uptoBulkAll spare + 1
  | .agg parts => uptoBulkAll parts + 1
  | .iface _ d => uptoBulk d + 1
  | .map entries => uptoBulkEntries entries + 1
  | .held _ => 1
def uptoBulkAll {H : Type} : List (DataW H) → Nat
  | [] => 0
  | d :: r => uptoBulk d + uptoBulkAll r
def uptoBulkEntries {H : Type} : List (Lit × DataW H) → Nat
  | [] => 0
  | x :: r => uptoBulkEntry x + uptoBulkEntries r
def uptoBulkEntry {H : Type} : Lit × DataW H → Nat
  | (.string bytes, d) => bytes.length + uptoBulk d + 1
  | (_, d) => uptoBulk d + 1
 end
def uptoSmall : (H : Type) → List (DataW H) → Bool := fun _ ds => decide (uptoBulkAll ds ≤ 1048576)
def OpenSpec.upto (s : _root_.Go.ChangeSpec) : _root_.Go.OpenSpec := { _root_.Go.OpenSpec.ofChange s with cond := some uptoSmall }

/-- 'headgatelaw29.FlatWrites', WHERE WHAT IT READS IS OF BULK AT MOST 1048576: true; the input reads as it did. -/
def flatWritesUptoRow : OpenClaim := { program := "ytdfolpfibhfmlaa", sum := "c48b0b1e66d53f0f4e12a07a0f846ad9abc7c8ebc31a11d97cfe7c4eba4bbae6", func := "headgate/headgatelaw29.FlatWrites", spec := "flatWrites", inPlace := ["maps.clone"], unfollowed := true, recurses := true, plainKeys := false, apart := false, narrowed := true }
def FlatWritesUptoSaid : Prop := flatWritesUptoRow.holds Try.pinned (OpenSpec.upto flatWritesSpec)

/-- 'headgatelaw29.FlatReads', WHERE WHAT IT READS IS OF BULK AT MOST 1048576: true; the input reads as it did. -/
def flatReadsUptoRow : OpenClaim := { program := "ytdfolpfibhfmlaa", sum := "c48b0b1e66d53f0f4e12a07a0f846ad9abc7c8ebc31a11d97cfe7c4eba4bbae6", func := "headgate/headgatelaw29.FlatReads", spec := "flatReads", inPlace := ["maps.clone"], unfollowed := true, recurses := true, plainKeys := false, apart := false, narrowed := true }
def FlatReadsUptoSaid : Prop := flatReadsUptoRow.holds Try.pinned (OpenSpec.upto flatReadsSpec)

/-- 'headgatelaw29.FlatKnown', WHERE WHAT IT READS IS OF BULK AT MOST 1048576: true; the input reads as it did. -/
def flatKnownUptoRow : OpenClaim := { program := "ytdfolpfibhfmlaa", sum := "c48b0b1e66d53f0f4e12a07a0f846ad9abc7c8ebc31a11d97cfe7c4eba4bbae6", func := "headgate/headgatelaw29.FlatKnown", spec := "flatKnown", inPlace := ["maps.clone"], unfollowed := true, recurses := true, plainKeys := false, apart := false, narrowed := true }
def FlatKnownUptoSaid : Prop := flatKnownUptoRow.holds Try.pinned (OpenSpec.upto flatKnownSpec)

/-- 'headgatelaw29.FlatMaps', WHERE WHAT IT READS IS OF BULK AT MOST 1048576: true; the input reads as it did. -/
def flatMapsUptoRow : OpenClaim := { program := "ytdfolpfibhfmlaa", sum := "c48b0b1e66d53f0f4e12a07a0f846ad9abc7c8ebc31a11d97cfe7c4eba4bbae6", func := "headgate/headgatelaw29.FlatMaps", spec := "flatMaps", inPlace := ["maps.clone"], unfollowed := true, recurses := true, plainKeys := false, apart := false, narrowed := true }
def FlatMapsUptoSaid : Prop := flatMapsUptoRow.holds Try.pinned (OpenSpec.upto flatMapsSpec)

/-- 'headgatelaw29.FlatWrite', WHERE WHAT IT READS IS OF BULK AT MOST 1048576: true; the input reads as it did. -/
def flatWriteUptoRow : OpenClaim := { program := "ytdfolpfibhfmlaa", sum := "c48b0b1e66d53f0f4e12a07a0f846ad9abc7c8ebc31a11d97cfe7c4eba4bbae6", func := "headgate/headgatelaw29.FlatWrite", spec := "flatWrite", inPlace := ["maps.clone"], unfollowed := true, recurses := true, plainKeys := false, apart := false, narrowed := true }
def FlatWriteUptoSaid : Prop := flatWriteUptoRow.holds Try.pinned (OpenSpec.upto flatWriteSpec)

/-- 'headgatelaw29.FlatOrder', WHERE WHAT IT READS IS OF BULK AT MOST 1048576: true; the input reads as it did. -/
def flatOrderUptoRow : OpenClaim := { program := "ytdfolpfibhfmlaa", sum := "c48b0b1e66d53f0f4e12a07a0f846ad9abc7c8ebc31a11d97cfe7c4eba4bbae6", func := "headgate/headgatelaw29.FlatOrder", spec := "flatOrder", inPlace := ["maps.clone"], unfollowed := true, recurses := true, plainKeys := false, apart := false, narrowed := true }
def FlatOrderUptoSaid : Prop := flatOrderUptoRow.holds Try.pinned (OpenSpec.upto flatOrderSpec)

/-- 'headgatelaw29.FlatForks', WHERE WHAT IT READS IS OF BULK AT MOST 1048576: true; the input reads as it did. -/
def flatForksUptoRow : OpenClaim := { program := "ytdfolpfibhfmlaa", sum := "c48b0b1e66d53f0f4e12a07a0f846ad9abc7c8ebc31a11d97cfe7c4eba4bbae6", func := "headgate/headgatelaw29.FlatForks", spec := "flatForks", inPlace := ["maps.clone"], unfollowed := true, recurses := true, plainKeys := false, apart := false, narrowed := true }
def FlatForksUptoSaid : Prop := flatForksUptoRow.holds Try.pinned (OpenSpec.upto flatForksSpec)

end Rows
end Go.Proofs.Ytdfolpfibhfmlaa
