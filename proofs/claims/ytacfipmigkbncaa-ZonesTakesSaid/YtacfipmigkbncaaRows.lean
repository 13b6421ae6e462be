/-
  No cell of these rows narrows 'for every input' (looked for: loops, veiled, ifaces, maps, wideKeys, modest, calm, conditions, laid).
  DERIVED. THE GIVEN ROWS OF THIS SEAT. 8 by the template 'for every input the law returns true; each argument reads behind the call as it read before'; 0 by the template 'total and deterministic' (their statements: YtacfipmigkbncaaTotals.lean).
  GIVEN WITH THE SEED: the statements are not yours to turn. If you find one false, say at which input.
  Laid BY PROGRAM, IN A SANDBOX (cutbox-rows.mjs): the forced cells as the released guide's own fill.sh prints them over the translation 8a844291fd33f89e… (all of the seat's roots in one cut). By AI agents, Wed Nov 11 2026. No macro, syntax, notation, axiom, sorry.
-/
import Derived.Test.YtacfipmigkbncaaChecked
import GoSem.Claim
import GoSem.ClaimJoined
import GoSem.ClaimMapViews
import Derived.JoinedTies
import Derived.KernelRfl
namespace Go.Proofs.Ytacfipmigkbncaa
/- THE CELL 'sum', in the pinned program and in every row, IS THE sha256 OF THE DUMP (.gsa) THAT YtacfipmigkbncaaProg.lean LOADS. Nothing in Lean hashes anything: it is a label: what it is worth is what the hold of that sum in a sandbox is worth. -/
noncomputable def Try.pinned : Pinned := { name := "ytacfipmigkbncaa", sum := "8a844291fd33f89ea2fbd178fdb3ccbf610b6112fee399b0d803a53f0d99ada3", checked := Try.checked }
namespace Rows
def none {H : Type} : Left H := { results := [], args := [] }

/-- 'headgatelaw11.ZonesAllocs': WHATEVER THE INPUT: true; the input reads as it did. -/
def zonesAllocsSpec : ChangeSpec := { name := "zonesAllocs", fn := fun _ => fun
  | [d1, d2, d3] => { results := [.lit (.bool true)], args := [d1, d2, d3] }
  | _ => none }
def zonesAllocsRow : OpenClaim := { program := "ytacfipmigkbncaa", sum := "8a844291fd33f89ea2fbd178fdb3ccbf610b6112fee399b0d803a53f0d99ada3", func := "headgate/headgatelaw11.ZonesAllocs", spec := "zonesAllocs", inPlace := ["slices.overlaps[uint8]"], unfollowed := true, recurses := true, apart := false }
def ZonesAllocsSaid : Prop := zonesAllocsRow.holds Try.pinned (OpenSpec.ofChange zonesAllocsSpec)

/-- ITS FALSE NEIGHBOUR: 'it returns false'. Refute it at one input. -/
def zonesAllocsWrong : ChangeSpec := { name := "zonesAllocs", fn := fun _ => fun
  | [d1, d2, d3] => { results := [.lit (.bool false)], args := [d1, d2, d3] }
  | _ => none }
def ZonesAllocsWrongFalsely : Prop := zonesAllocsRow.holds Try.pinned (OpenSpec.ofChange zonesAllocsWrong)

/-- 'headgatelaw11.ZonesTakes': WHATEVER THE INPUT: true; the input reads as it did. -/
def zonesTakesSpec : ChangeSpec := { name := "zonesTakes", fn := fun _ => fun
  | [d1, d2, d3] => { results := [.lit (.bool true)], args := [d1, d2, d3] }
  | _ => none }
def zonesTakesRow : OpenClaim := { program := "ytacfipmigkbncaa", sum := "8a844291fd33f89ea2fbd178fdb3ccbf610b6112fee399b0d803a53f0d99ada3", func := "headgate/headgatelaw11.ZonesTakes", spec := "zonesTakes", inPlace := ["slices.overlaps[uint8]"], unfollowed := true, recurses := true, apart := false }
def ZonesTakesSaid : Prop := zonesTakesRow.holds Try.pinned (OpenSpec.ofChange zonesTakesSpec)

/-- ITS FALSE NEIGHBOUR: 'it returns false'. Refute it at one input. -/
def zonesTakesWrong : ChangeSpec := { name := "zonesTakes", fn := fun _ => fun
  | [d1, d2, d3] => { results := [.lit (.bool false)], args := [d1, d2, d3] }
  | _ => none }
def ZonesTakesWrongFalsely : Prop := zonesTakesRow.holds Try.pinned (OpenSpec.ofChange zonesTakesWrong)

/-- 'headgatelaw11.ZonesLooks': WHATEVER THE INPUT: true; the input reads as it did. -/
def zonesLooksSpec : ChangeSpec := { name := "zonesLooks", fn := fun _ => fun
  | [d1, d2, d3, d4] => { results := [.lit (.bool true)], args := [d1, d2, d3, d4] }
  | _ => none }
def zonesLooksRow : OpenClaim := { program := "ytacfipmigkbncaa", sum := "8a844291fd33f89ea2fbd178fdb3ccbf610b6112fee399b0d803a53f0d99ada3", func := "headgate/headgatelaw11.ZonesLooks", spec := "zonesLooks", inPlace := ["slices.overlaps[uint8]"], unfollowed := true, recurses := true, apart := false }
def ZonesLooksSaid : Prop := zonesLooksRow.holds Try.pinned (OpenSpec.ofChange zonesLooksSpec)

/-- ITS FALSE NEIGHBOUR: 'it returns false'. Refute it at one input. -/
def zonesLooksWrong : ChangeSpec := { name := "zonesLooks", fn := fun _ => fun
  | [d1, d2, d3, d4] => { results := [.lit (.bool false)], args := [d1, d2, d3, d4] }
  | _ => none }
def ZonesLooksWrongFalsely : Prop := zonesLooksRow.holds Try.pinned (OpenSpec.ofChange zonesLooksWrong)

/-- 'headgatelaw11.ZonesFrees': WHATEVER THE INPUT: true; the input reads as it did. -/
def zonesFreesSpec : ChangeSpec := { name := "zonesFrees", fn := fun _ => fun
  | [d1, d2, d3] => { results := [.lit (.bool true)], args := [d1, d2, d3] }
  | _ => none }
def zonesFreesRow : OpenClaim := { program := "ytacfipmigkbncaa", sum := "8a844291fd33f89ea2fbd178fdb3ccbf610b6112fee399b0d803a53f0d99ada3", func := "headgate/headgatelaw11.ZonesFrees", spec := "zonesFrees", inPlace := ["slices.overlaps[uint8]"], unfollowed := true, recurses := true, apart := false }
def ZonesFreesSaid : Prop := zonesFreesRow.holds Try.pinned (OpenSpec.ofChange zonesFreesSpec)

/-- ITS FALSE NEIGHBOUR: 'it returns false'. Refute it at one input. -/
def zonesFreesWrong : ChangeSpec := { name := "zonesFrees", fn := fun _ => fun
  | [d1, d2, d3] => { results := [.lit (.bool false)], args := [d1, d2, d3] }
  | _ => none }
def ZonesFreesWrongFalsely : Prop := zonesFreesRow.holds Try.pinned (OpenSpec.ofChange zonesFreesWrong)

/-- 'headgatelaw11.ZonesFirst': WHATEVER THE INPUT: true; the input reads as it did. -/
def zonesFirstSpec : ChangeSpec := { name := "zonesFirst", fn := fun _ => fun
  | [d1, d2, d3] => { results := [.lit (.bool true)], args := [d1, d2, d3] }
  | _ => none }
def zonesFirstRow : OpenClaim := { program := "ytacfipmigkbncaa", sum := "8a844291fd33f89ea2fbd178fdb3ccbf610b6112fee399b0d803a53f0d99ada3", func := "headgate/headgatelaw11.ZonesFirst", spec := "zonesFirst", inPlace := ["slices.overlaps[uint8]"], unfollowed := true, recurses := true, apart := false }
def ZonesFirstSaid : Prop := zonesFirstRow.holds Try.pinned (OpenSpec.ofChange zonesFirstSpec)

/-- ITS FALSE NEIGHBOUR: 'it returns false'. Refute it at one input. -/
def zonesFirstWrong : ChangeSpec := { name := "zonesFirst", fn := fun _ => fun
  | [d1, d2, d3] => { results := [.lit (.bool false)], args := [d1, d2, d3] }
  | _ => none }
def ZonesFirstWrongFalsely : Prop := zonesFirstRow.holds Try.pinned (OpenSpec.ofChange zonesFirstWrong)

/-- 'headgatelaw11.ZonesSteps': WHATEVER THE INPUT: true; the input reads as it did. -/
def zonesStepsSpec : ChangeSpec := { name := "zonesSteps", fn := fun _ => fun
  | [d1, d2, d3] => { results := [.lit (.bool true)], args := [d1, d2, d3] }
  | _ => none }
def zonesStepsRow : OpenClaim := { program := "ytacfipmigkbncaa", sum := "8a844291fd33f89ea2fbd178fdb3ccbf610b6112fee399b0d803a53f0d99ada3", func := "headgate/headgatelaw11.ZonesSteps", spec := "zonesSteps", inPlace := ["slices.overlaps[uint8]"], unfollowed := true, recurses := true, apart := false }
def ZonesStepsSaid : Prop := zonesStepsRow.holds Try.pinned (OpenSpec.ofChange zonesStepsSpec)

/-- ITS FALSE NEIGHBOUR: 'it returns false'. Refute it at one input. -/
def zonesStepsWrong : ChangeSpec := { name := "zonesSteps", fn := fun _ => fun
  | [d1, d2, d3] => { results := [.lit (.bool false)], args := [d1, d2, d3] }
  | _ => none }
def ZonesStepsWrongFalsely : Prop := zonesStepsRow.holds Try.pinned (OpenSpec.ofChange zonesStepsWrong)

/-- 'headgatelaw11.ZonesKnown': WHATEVER THE INPUT: true; the input reads as it did. -/
def zonesKnownSpec : ChangeSpec := { name := "zonesKnown", fn := fun _ => fun
  | [] => { results := [.lit (.bool true)], args := [] }
  | _ => none }
def zonesKnownRow : OpenClaim := { program := "ytacfipmigkbncaa", sum := "8a844291fd33f89ea2fbd178fdb3ccbf610b6112fee399b0d803a53f0d99ada3", func := "headgate/headgatelaw11.ZonesKnown", spec := "zonesKnown", inPlace := ["slices.overlaps[uint8]"], unfollowed := true, recurses := true, apart := false }
def ZonesKnownSaid : Prop := zonesKnownRow.holds Try.pinned (OpenSpec.ofChange zonesKnownSpec)

/-- ITS FALSE NEIGHBOUR: 'it returns false'. Refute it at one input. -/
def zonesKnownWrong : ChangeSpec := { name := "zonesKnown", fn := fun _ => fun
  | [] => { results := [.lit (.bool false)], args := [] }
  | _ => none }
def ZonesKnownWrongFalsely : Prop := zonesKnownRow.holds Try.pinned (OpenSpec.ofChange zonesKnownWrong)

/-- 'headgatelaw11.ZonesAll': WHATEVER THE INPUT: true; the input reads as it did. -/
def zonesAllSpec : ChangeSpec := { name := "zonesAll", fn := fun _ => fun
  | [d1, d2] => { results := [.lit (.bool true)], args := [d1, d2] }
  | _ => none }
def zonesAllRow : OpenClaim := { program := "ytacfipmigkbncaa", sum := "8a844291fd33f89ea2fbd178fdb3ccbf610b6112fee399b0d803a53f0d99ada3", func := "headgate/headgatelaw11.ZonesAll", spec := "zonesAll", inPlace := ["slices.overlaps[uint8]"], unfollowed := true, recurses := true, apart := false }
def ZonesAllSaid : Prop := zonesAllRow.holds Try.pinned (OpenSpec.ofChange zonesAllSpec)

/-- ITS FALSE NEIGHBOUR: 'it returns false'. Refute it at one input. -/
def zonesAllWrong : ChangeSpec := { name := "zonesAll", fn := fun _ => fun
  | [d1, d2] => { results := [.lit (.bool false)], args := [d1, d2] }
  | _ => none }
def ZonesAllWrongFalsely : Prop := zonesAllRow.holds Try.pinned (OpenSpec.ofChange zonesAllWrong)

/- THE SECOND FORM. 'bulk': how many values and letters a reading holds, each counted each time it is reached (what is shared counts as often as it is met; a slice's spare places count too). A statement '..UptoSaid' is the law's where the arguments, and the package variables that the reading takes, are together of bulk at most 1048576: NARROWER than '..Said'. Prove '..Said' where nothing that the law and all that it calls make is longer than what came in: it says more and counts as full. Else prove '..UptoSaid'. A law counts once. -/
mutual
def uptoBulk {H : Type} : DataW H → Nat
  | .lit (.string bytes) => bytes.length + 1
  | .lit _ => 1
  | .nil => 1
  | .ptr d => uptoBulk d + 1
  | .slice elems spare => uptoBulkAll elems + uptoBulkAll spare + 1
  | .agg parts => uptoBulkAll parts + 1
  | .iface _ d => uptoBulk d + 1
  | .map entries => uptoBulkEntries entries + 1
  | .held _ => 1
def uptoBulkAll {H : Type} : List (DataW H) → Nat
  | [] => 0
  | d :: r => uptoBulk d + uptoBulkAll r
def uptoBulkEntries {H : Type} : List (Lit × DataW H) → Nat
  | [] => 0
  | x :: r => uptoBulkEntry x + uptoBulkEntries r
def uptoBulkEntry {H : Type} : Lit × DataW H → Nat
  | (.string bytes, d) => bytes.length + uptoBulk d + 1
  | (_, d) => uptoBulk d + 1
 end
def uptoSmall : (H : Type) → List (DataW H) → Bool := fun _ ds => decide (uptoBulkAll ds ≤ 1048576)
def OpenSpec.upto (s : _root_.Go.ChangeSpec) : _root_.Go.OpenSpec := { _root_.Go.OpenSpec.ofChange s with cond := some uptoSmall }

/-- 'headgatelaw11.ZonesAllocs', WHERE WHAT IT READS IS OF BULK AT MOST 1048576: true; the input reads as it did. -/
def zonesAllocsUptoRow : OpenClaim := { program := "ytacfipmigkbncaa", sum := "8a844291fd33f89ea2fbd178fdb3ccbf610b6112fee399b0d803a53f0d99ada3", func := "headgate/headgatelaw11.ZonesAllocs", spec := "zonesAllocs", inPlace := ["slices.overlaps[uint8]"], unfollowed := true, recurses := true, apart := false, narrowed := true }
def ZonesAllocsUptoSaid : Prop := zonesAllocsUptoRow.holds Try.pinned (OpenSpec.upto zonesAllocsSpec)

/-- 'headgatelaw11.ZonesTakes', WHERE WHAT IT READS IS OF BULK AT MOST 1048576: true; the input reads as it did. -/
def zonesTakesUptoRow : OpenClaim := { program := "ytacfipmigkbncaa", sum := "8a844291fd33f89ea2fbd178fdb3ccbf610b6112fee399b0d803a53f0d99ada3", func := "headgate/headgatelaw11.ZonesTakes", spec := "zonesTakes", inPlace := ["slices.overlaps[uint8]"], unfollowed := true, recurses := true, apart := false, narrowed := true }
def ZonesTakesUptoSaid : Prop := zonesTakesUptoRow.holds Try.pinned (OpenSpec.upto zonesTakesSpec)

/-- 'headgatelaw11.ZonesLooks', WHERE WHAT IT READS IS OF BULK AT MOST 1048576: true; the input reads as it did. -/
def zonesLooksUptoRow : OpenClaim := { program := "ytacfipmigkbncaa", sum := "8a844291fd33f89ea2fbd178fdb3ccbf610b6112fee399b0d803a53f0d99ada3", func := "headgate/headgatelaw11.ZonesLooks", spec := "zonesLooks", inPlace := ["slices.overlaps[uint8]"], unfollowed := true, recurses := true, apart := false, narrowed := true }
def ZonesLooksUptoSaid : Prop := zonesLooksUptoRow.holds Try.pinned (OpenSpec.upto zonesLooksSpec)

/-- 'headgatelaw11.ZonesFrees', WHERE WHAT IT READS IS OF BULK AT MOST 1048576: true; the input reads as it did. -/
def zonesFreesUptoRow : OpenClaim := { program := "ytacfipmigkbncaa", sum := "8a844291fd33f89ea2fbd178fdb3ccbf610b6112fee399b0d803a53f0d99ada3", func := "headgate/headgatelaw11.ZonesFrees", spec := "zonesFrees", inPlace := ["slices.overlaps[uint8]"], unfollowed := true, recurses := true, apart := false, narrowed := true }
def ZonesFreesUptoSaid : Prop := zonesFreesUptoRow.holds Try.pinned (OpenSpec.upto zonesFreesSpec)

/-- 'headgatelaw11.ZonesFirst', WHERE WHAT IT READS IS OF BULK AT MOST 1048576: true; the input reads as it did. -/
def zonesFirstUptoRow : OpenClaim := { program := "ytacfipmigkbncaa", sum := "8a844291fd33f89ea2fbd178fdb3ccbf610b6112fee399b0d803a53f0d99ada3", func := "headgate/headgatelaw11.ZonesFirst", spec := "zonesFirst", inPlace := ["slices.overlaps[uint8]"], unfollowed := true, recurses := true, apart := false, narrowed := true }
def ZonesFirstUptoSaid : Prop := zonesFirstUptoRow.holds Try.pinned (OpenSpec.upto zonesFirstSpec)

/-- 'headgatelaw11.ZonesSteps', WHERE WHAT IT READS IS OF BULK AT MOST 1048576: true; the input reads as it did. -/
def zonesStepsUptoRow : OpenClaim := { program := "ytacfipmigkbncaa", sum := "8a844291fd33f89ea2fbd178fdb3ccbf610b6112fee399b0d803a53f0d99ada3", func := "headgate/headgatelaw11.ZonesSteps", spec := "zonesSteps", inPlace := ["slices.overlaps[uint8]"], unfollowed := true, recurses := true, apart := false, narrowed := true }
def ZonesStepsUptoSaid : Prop := zonesStepsUptoRow.holds Try.pinned (OpenSpec.upto zonesStepsSpec)

/-- 'headgatelaw11.ZonesKnown', WHERE WHAT IT READS IS OF BULK AT MOST 1048576: true; the input reads as it did. -/
def zonesKnownUptoRow : OpenClaim := { program := "ytacfipmigkbncaa", sum := "8a844291fd33f89ea2fbd178fdb3ccbf610b6112fee399b0d803a53f0d99ada3", func := "headgate/headgatelaw11.ZonesKnown", spec := "zonesKnown", inPlace := ["slices.overlaps[uint8]"], unfollowed := true, recurses := true, apart := false, narrowed := true }
def ZonesKnownUptoSaid : Prop := zonesKnownUptoRow.holds Try.pinned (OpenSpec.upto zonesKnownSpec)

/-- 'headgatelaw11.ZonesAll', WHERE WHAT IT READS IS OF BULK AT MOST 1048576: true; the input reads as it did. -/
def zonesAllUptoRow : OpenClaim := { program := "ytacfipmigkbncaa", sum := "8a844291fd33f89ea2fbd178fdb3ccbf610b6112fee399b0d803a53f0d99ada3", func := "headgate/headgatelaw11.ZonesAll", spec := "zonesAll", inPlace := ["slices.overlaps[uint8]"], unfollowed := true, recurses := true, apart := false, narrowed := true }
def ZonesAllUptoSaid : Prop := zonesAllUptoRow.holds Try.pinned (OpenSpec.upto zonesAllSpec)

end Rows
end Go.Proofs.Ytacfipmigkbncaa
