/-
  No cell of these rows narrows 'for every input' (looked for: loops, veiled, ifaces, maps, wideKeys, modest, calm, conditions, laid).
  DERIVED. THE GIVEN ROWS OF THIS SEAT. 7 by the template 'for every input the law returns true; each argument reads behind the call as it read before'; 0 by the template 'total and deterministic' (their statements: YtpkiabhlmjnemaaTotals.lean).
  GIVEN WITH THE SEED: the statements are not yours to turn. If you find one false, say at which input.
  Laid BY PROGRAM, IN A SANDBOX (cutbox-rows.mjs): the forced cells as the released guide's own fill.sh prints them over the translation 98aae5610bc3c454… (all of the seat's roots in one cut). By AI agents, Wed Nov 11 2026. No macro, syntax, notation, axiom, sorry.
-/
import Derived.Test.YtpkiabhlmjnemaaChecked
import GoSem.Claim
import GoSem.ClaimJoined
import GoSem.ClaimMapViews
import Derived.JoinedTies
import Derived.KernelRfl
namespace Go.Proofs.Ytpkiabhlmjnemaa
/- THE CELL 'sum', in the pinned program and in every row, IS THE sha256 OF THE DUMP (.gsa) THAT YtpkiabhlmjnemaaProg.lean LOADS. Nothing in Lean hashes anything: it is a label: what it is worth is what the hold of that sum in a sandbox is worth. -/
noncomputable def Try.pinned : Pinned := { name := "ytpkiabhlmjnemaa", sum := "98aae5610bc3c4544de4aa79098025d59b51b1806ed12566b8673247a2630c4f", checked := Try.checked }
namespace Rows
def none {H : Type} : Left H := { results := [], args := [] }

/-- 'headgatelaw15.ShrinkSums': WHATEVER THE INPUT: true; the input reads as it did. -/
def shrinkSumsSpec : ChangeSpec := { name := "shrinkSums", fn := fun _ => fun
  | [d1, d2] => { results := [.lit (.bool true)], args := [d1, d2] }
  | _ => none }
def shrinkSumsRow : OpenClaim := { program := "ytpkiabhlmjnemaa", sum := "98aae5610bc3c4544de4aa79098025d59b51b1806ed12566b8673247a2630c4f", func := "headgate/headgatelaw15.ShrinkSums", spec := "shrinkSums", inPlace := ["internal/reflectlite.ValueOf", "internal/reflectlite.Swapper", "(internal/reflectlite.Value).Len"], unfollowed := true, recurses := true, apart := false }
def ShrinkSumsSaid : Prop := shrinkSumsRow.holds Try.pinned (OpenSpec.ofChange shrinkSumsSpec)

/-- ITS FALSE NEIGHBOUR: 'it returns false'. Refute it at one input. -/
def shrinkSumsWrong : ChangeSpec := { name := "shrinkSums", fn := fun _ => fun
  | [d1, d2] => { results := [.lit (.bool false)], args := [d1, d2] }
  | _ => none }
def ShrinkSumsWrongFalsely : Prop := shrinkSumsRow.holds Try.pinned (OpenSpec.ofChange shrinkSumsWrong)

/-- 'headgatelaw15.ShrinkOldest': WHATEVER THE INPUT: true; the input reads as it did. -/
def shrinkOldestSpec : ChangeSpec := { name := "shrinkOldest", fn := fun _ => fun
  | [d1, d2] => { results := [.lit (.bool true)], args := [d1, d2] }
  | _ => none }
def shrinkOldestRow : OpenClaim := { program := "ytpkiabhlmjnemaa", sum := "98aae5610bc3c4544de4aa79098025d59b51b1806ed12566b8673247a2630c4f", func := "headgate/headgatelaw15.ShrinkOldest", spec := "shrinkOldest", inPlace := ["internal/reflectlite.ValueOf", "internal/reflectlite.Swapper", "(internal/reflectlite.Value).Len"], unfollowed := true, recurses := true, apart := false }
def ShrinkOldestSaid : Prop := shrinkOldestRow.holds Try.pinned (OpenSpec.ofChange shrinkOldestSpec)

/-- ITS FALSE NEIGHBOUR: 'it returns false'. Refute it at one input. -/
def shrinkOldestWrong : ChangeSpec := { name := "shrinkOldest", fn := fun _ => fun
  | [d1, d2] => { results := [.lit (.bool false)], args := [d1, d2] }
  | _ => none }
def ShrinkOldestWrongFalsely : Prop := shrinkOldestRow.holds Try.pinned (OpenSpec.ofChange shrinkOldestWrong)

/-- 'headgatelaw15.ShrinkTakes': WHATEVER THE INPUT: true; the input reads as it did. -/
def shrinkTakesSpec : ChangeSpec := { name := "shrinkTakes", fn := fun _ => fun
  | [d1, d2] => { results := [.lit (.bool true)], args := [d1, d2] }
  | _ => none }
def shrinkTakesRow : OpenClaim := { program := "ytpkiabhlmjnemaa", sum := "98aae5610bc3c4544de4aa79098025d59b51b1806ed12566b8673247a2630c4f", func := "headgate/headgatelaw15.ShrinkTakes", spec := "shrinkTakes", inPlace := ["internal/reflectlite.ValueOf", "internal/reflectlite.Swapper", "(internal/reflectlite.Value).Len"], unfollowed := true, recurses := true, apart := false }
def ShrinkTakesSaid : Prop := shrinkTakesRow.holds Try.pinned (OpenSpec.ofChange shrinkTakesSpec)

/-- ITS FALSE NEIGHBOUR: 'it returns false'. Refute it at one input. -/
def shrinkTakesWrong : ChangeSpec := { name := "shrinkTakes", fn := fun _ => fun
  | [d1, d2] => { results := [.lit (.bool false)], args := [d1, d2] }
  | _ => none }
def ShrinkTakesWrongFalsely : Prop := shrinkTakesRow.holds Try.pinned (OpenSpec.ofChange shrinkTakesWrong)

/-- 'headgatelaw15.ShrinkOne': WHATEVER THE INPUT: true; the input reads as it did. -/
def shrinkOneSpec : ChangeSpec := { name := "shrinkOne", fn := fun _ => fun
  | [d1, d2, d3] => { results := [.lit (.bool true)], args := [d1, d2, d3] }
  | _ => none }
def shrinkOneRow : OpenClaim := { program := "ytpkiabhlmjnemaa", sum := "98aae5610bc3c4544de4aa79098025d59b51b1806ed12566b8673247a2630c4f", func := "headgate/headgatelaw15.ShrinkOne", spec := "shrinkOne", inPlace := ["internal/reflectlite.ValueOf", "internal/reflectlite.Swapper", "(internal/reflectlite.Value).Len"], unfollowed := true, recurses := true, apart := false }
def ShrinkOneSaid : Prop := shrinkOneRow.holds Try.pinned (OpenSpec.ofChange shrinkOneSpec)

/-- ITS FALSE NEIGHBOUR: 'it returns false'. Refute it at one input. -/
def shrinkOneWrong : ChangeSpec := { name := "shrinkOne", fn := fun _ => fun
  | [d1, d2, d3] => { results := [.lit (.bool false)], args := [d1, d2, d3] }
  | _ => none }
def ShrinkOneWrongFalsely : Prop := shrinkOneRow.holds Try.pinned (OpenSpec.ofChange shrinkOneWrong)

/-- 'headgatelaw15.ShrinkChanges': WHATEVER THE INPUT: true; the input reads as it did. -/
def shrinkChangesSpec : ChangeSpec := { name := "shrinkChanges", fn := fun _ => fun
  | [d1, d2, d3] => { results := [.lit (.bool true)], args := [d1, d2, d3] }
  | _ => none }
def shrinkChangesRow : OpenClaim := { program := "ytpkiabhlmjnemaa", sum := "98aae5610bc3c4544de4aa79098025d59b51b1806ed12566b8673247a2630c4f", func := "headgate/headgatelaw15.ShrinkChanges", spec := "shrinkChanges", inPlace := ["internal/reflectlite.ValueOf", "internal/reflectlite.Swapper", "(internal/reflectlite.Value).Len"], unfollowed := true, recurses := true, apart := false }
def ShrinkChangesSaid : Prop := shrinkChangesRow.holds Try.pinned (OpenSpec.ofChange shrinkChangesSpec)

/-- ITS FALSE NEIGHBOUR: 'it returns false'. Refute it at one input. -/
def shrinkChangesWrong : ChangeSpec := { name := "shrinkChanges", fn := fun _ => fun
  | [d1, d2, d3] => { results := [.lit (.bool false)], args := [d1, d2, d3] }
  | _ => none }
def ShrinkChangesWrongFalsely : Prop := shrinkChangesRow.holds Try.pinned (OpenSpec.ofChange shrinkChangesWrong)

/-- 'headgatelaw15.ShrinkUndo': WHATEVER THE INPUT: true; the input reads as it did. -/
def shrinkUndoSpec : ChangeSpec := { name := "shrinkUndo", fn := fun _ => fun
  | [d1, d2, d3] => { results := [.lit (.bool true)], args := [d1, d2, d3] }
  | _ => none }
def shrinkUndoRow : OpenClaim := { program := "ytpkiabhlmjnemaa", sum := "98aae5610bc3c4544de4aa79098025d59b51b1806ed12566b8673247a2630c4f", func := "headgate/headgatelaw15.ShrinkUndo", spec := "shrinkUndo", inPlace := ["internal/reflectlite.ValueOf", "internal/reflectlite.Swapper", "(internal/reflectlite.Value).Len"], unfollowed := true, recurses := true, apart := false }
def ShrinkUndoSaid : Prop := shrinkUndoRow.holds Try.pinned (OpenSpec.ofChange shrinkUndoSpec)

/-- ITS FALSE NEIGHBOUR: 'it returns false'. Refute it at one input. -/
def shrinkUndoWrong : ChangeSpec := { name := "shrinkUndo", fn := fun _ => fun
  | [d1, d2, d3] => { results := [.lit (.bool false)], args := [d1, d2, d3] }
  | _ => none }
def ShrinkUndoWrongFalsely : Prop := shrinkUndoRow.holds Try.pinned (OpenSpec.ofChange shrinkUndoWrong)

/-- 'headgatelaw15.ShrinkKnown': WHATEVER THE INPUT: true; the input reads as it did. -/
def shrinkKnownSpec : ChangeSpec := { name := "shrinkKnown", fn := fun _ => fun
  | [] => { results := [.lit (.bool true)], args := [] }
  | _ => none }
def shrinkKnownRow : OpenClaim := { program := "ytpkiabhlmjnemaa", sum := "98aae5610bc3c4544de4aa79098025d59b51b1806ed12566b8673247a2630c4f", func := "headgate/headgatelaw15.ShrinkKnown", spec := "shrinkKnown", inPlace := ["internal/reflectlite.ValueOf", "internal/reflectlite.Swapper", "(internal/reflectlite.Value).Len"], unfollowed := true, recurses := true, apart := false }
def ShrinkKnownSaid : Prop := shrinkKnownRow.holds Try.pinned (OpenSpec.ofChange shrinkKnownSpec)

/-- ITS FALSE NEIGHBOUR: 'it returns false'. Refute it at one input. -/
def shrinkKnownWrong : ChangeSpec := { name := "shrinkKnown", fn := fun _ => fun
  | [] => { results := [.lit (.bool false)], args := [] }
  | _ => none }
def ShrinkKnownWrongFalsely : Prop := shrinkKnownRow.holds Try.pinned (OpenSpec.ofChange shrinkKnownWrong)

/- THE SECOND FORM. 'bulk': how many values and letters a reading holds, each counted each time it is reached (what is shared counts as often as it is met; a slice's spare places count too). A statement '..UptoSaid' is the law's where the arguments, and the package variables that the reading takes, are together of bulk at most 1048576: NARROWER than '..Said'. Prove '..Said' where nothing that the law and all that it calls make is longer than what came in: it says more and counts as full. Else prove '..UptoSaid'. A law counts once. -/
mutual
def uptoBulk {H : Type} : DataW H → Nat
  | .lit (.string bytes) => bytes.length + 1
  | .lit _ => 1
  | .nil => 1
  | .ptr d => uptoBulk d + 1
  | .slice elems spare => uptoBulkAll elems + uptoBulkAll spare + 1
  | .agg parts => uptoBulkAll parts + 1
  | .iface _ d => uptoBulk d + 1
  | .map entries => uptoBulkEntries entries + 1
  | .held _ => 1
def uptoBulkAll {H : Type} : List (DataW H) → Nat
  | [] => 0
  | d :: r => uptoBulk d + uptoBulkAll r
def uptoBulkEntries {H : Type} : List (Lit × DataW H) → Nat
  | [] => 0
  | x :: r => uptoBulkEntry x + uptoBulkEntries r
def uptoBulkEntry {H : Type} : Lit × DataW H → Nat
  | (.string bytes, d) => bytes.length + uptoBulk d + 1
  | (_, d) => uptoBulk d + 1
 end
def uptoSmall : (H : Type) → List (DataW H) → Bool := fun _ ds => decide (uptoBulkAll ds ≤ 1048576)
def OpenSpec.upto (s : _root_.Go.ChangeSpec) : _root_.Go.OpenSpec := { _root_.Go.OpenSpec.ofChange s with cond := some uptoSmall }

/-- 'headgatelaw15.ShrinkSums', WHERE WHAT IT READS IS OF BULK AT MOST 1048576: true; the input reads as it did. -/
def shrinkSumsUptoRow : OpenClaim := { program := "ytpkiabhlmjnemaa", sum := "98aae5610bc3c4544de4aa79098025d59b51b1806ed12566b8673247a2630c4f", func := "headgate/headgatelaw15.ShrinkSums", spec := "shrinkSums", inPlace := ["internal/reflectlite.ValueOf", "internal/reflectlite.Swapper", "(internal/reflectlite.Value).Len"], unfollowed := true, recurses := true, apart := false, narrowed := true }
def ShrinkSumsUptoSaid : Prop := shrinkSumsUptoRow.holds Try.pinned (OpenSpec.upto shrinkSumsSpec)

/-- 'headgatelaw15.ShrinkOldest', WHERE WHAT IT READS IS OF BULK AT MOST 1048576: true; the input reads as it did. -/
def shrinkOldestUptoRow : OpenClaim := { program := "ytpkiabhlmjnemaa", sum := "98aae5610bc3c4544de4aa79098025d59b51b1806ed12566b8673247a2630c4f", func := "headgate/headgatelaw15.ShrinkOldest", spec := "shrinkOldest", inPlace := ["internal/reflectlite.ValueOf", "internal/reflectlite.Swapper", "(internal/reflectlite.Value).Len"], unfollowed := true, recurses := true, apart := false, narrowed := true }
def ShrinkOldestUptoSaid : Prop := shrinkOldestUptoRow.holds Try.pinned (OpenSpec.upto shrinkOldestSpec)

/-- 'headgatelaw15.ShrinkTakes', WHERE WHAT IT READS IS OF BULK AT MOST 1048576: true; the input reads as it did. -/
def shrinkTakesUptoRow : OpenClaim := { program := "ytpkiabhlmjnemaa", sum := "98aae5610bc3c4544de4aa79098025d59b51b1806ed12566b8673247a2630c4f", func := "headgate/headgatelaw15.ShrinkTakes", spec := "shrinkTakes", inPlace := ["internal/reflectlite.ValueOf", "internal/reflectlite.Swapper", "(internal/reflectlite.Value).Len"], unfollowed := true, recurses := true, apart := false, narrowed := true }
def ShrinkTakesUptoSaid : Prop := shrinkTakesUptoRow.holds Try.pinned (OpenSpec.upto shrinkTakesSpec)

/-- 'headgatelaw15.ShrinkOne', WHERE WHAT IT READS IS OF BULK AT MOST 1048576: true; the input reads as it did. -/
def shrinkOneUptoRow : OpenClaim := { program := "ytpkiabhlmjnemaa", sum := "98aae5610bc3c4544de4aa79098025d59b51b1806ed12566b8673247a2630c4f", func := "headgate/headgatelaw15.ShrinkOne", spec := "shrinkOne", inPlace := ["internal/reflectlite.ValueOf", "internal/reflectlite.Swapper", "(internal/reflectlite.Value).Len"], unfollowed := true, recurses := true, apart := false, narrowed := true }
def ShrinkOneUptoSaid : Prop := shrinkOneUptoRow.holds Try.pinned (OpenSpec.upto shrinkOneSpec)

/-- 'headgatelaw15.ShrinkChanges', WHERE WHAT IT READS IS OF BULK AT MOST 1048576: true; the input reads as it did. -/
def shrinkChangesUptoRow : OpenClaim := { program := "ytpkiabhlmjnemaa", sum := "98aae5610bc3c4544de4aa79098025d59b51b1806ed12566b8673247a2630c4f", func := "headgate/headgatelaw15.ShrinkChanges", spec := "shrinkChanges", inPlace := ["internal/reflectlite.ValueOf", "internal/reflectlite.Swapper", "(internal/reflectlite.Value).Len"], unfollowed := true, recurses := true, apart := false, narrowed := true }
def ShrinkChangesUptoSaid : Prop := shrinkChangesUptoRow.holds Try.pinned (OpenSpec.upto shrinkChangesSpec)

/-- 'headgatelaw15.ShrinkUndo', WHERE WHAT IT READS IS OF BULK AT MOST 1048576: true; the input reads as it did. -/
def shrinkUndoUptoRow : OpenClaim := { program := "ytpkiabhlmjnemaa", sum := "98aae5610bc3c4544de4aa79098025d59b51b1806ed12566b8673247a2630c4f", func := "headgate/headgatelaw15.ShrinkUndo", spec := "shrinkUndo", inPlace := ["internal/reflectlite.ValueOf", "internal/reflectlite.Swapper", "(internal/reflectlite.Value).Len"], unfollowed := true, recurses := true, apart := false, narrowed := true }
def ShrinkUndoUptoSaid : Prop := shrinkUndoUptoRow.holds Try.pinned (OpenSpec.upto shrinkUndoSpec)

/-- 'headgatelaw15.ShrinkKnown', WHERE WHAT IT READS IS OF BULK AT MOST 1048576: true; the input reads as it did. -/
def shrinkKnownUptoRow : OpenClaim := { program := "ytpkiabhlmjnemaa", sum := "98aae5610bc3c4544de4aa79098025d59b51b1806ed12566b8673247a2630c4f", func := "headgate/headgatelaw15.ShrinkKnown", spec := "shrinkKnown", inPlace := ["internal/reflectlite.ValueOf", "internal/reflectlite.Swapper", "(internal/reflectlite.Value).Len"], unfollowed := true, recurses := true, apart := false, narrowed := true }
def ShrinkKnownUptoSaid : Prop := shrinkKnownUptoRow.holds Try.pinned (OpenSpec.upto shrinkKnownSpec)

end Rows
end Go.Proofs.Ytpkiabhlmjnemaa
