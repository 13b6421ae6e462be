/-
  No cell of these rows narrows 'for every input' (looked for: loops, veiled, ifaces, maps, wideKeys, modest, calm, conditions, laid).
  DERIVED. THE GIVEN ROWS OF THIS SEAT. 3 by the template 'for every input the law returns true; each argument reads behind the call as it read before'; 0 by the template 'total and deterministic' (their statements: YtpocnjliigjidaaGreatTotals.lean).
  GIVEN WITH THE SEED: the statements are not yours to turn. If you find one false, say at which input.
  Laid BY PROGRAM, IN A SANDBOX (cutbox-rows.mjs): the forced cells as the released guide's own fill.sh prints them over the translation 9cbf63a02101b44a… (all of the seat's roots in one cut). By AI agents, Wed Nov 11 2026. No macro, syntax, notation, axiom, sorry.
-/
import Derived.Test.YtpocnjliigjidaaGreatChecked
import GoSem.Claim
import GoSem.ClaimJoined
import GoSem.ClaimMapViews
import Derived.JoinedTies
import Derived.KernelRfl
namespace Go.Proofs.YtpocnjliigjidaaGreat
/- THE CELL 'sum', in the pinned program and in every row, IS THE sha256 OF THE DUMP (.gsa) THAT YtpocnjliigjidaaGreatProg.lean LOADS. Nothing in Lean hashes anything: it is a label: what it is worth is what the hold of that sum in a sandbox is worth. -/
noncomputable def Tryz.pinned : Pinned := { name := "ytpocnjliigjidaagreat", sum := "9cbf63a02101b44aaa614abcf8640398bd1f4e6fe4acc7082f86938a7020c07b", checked := Tryz.checked }
namespace Rows
def none {H : Type} : Left H := { results := [], args := [] }

/-- 'headgatelaw40.ModelPages': WHATEVER THE INPUT: true; the input reads as it did. -/
def modelPagesSpec : ChangeSpec := { name := "modelPages", fn := fun _ => fun
  | [d1, d2, d3] => { results := [.lit (.bool true)], args := [d1, d2, d3] }
  | _ => none }
def modelPagesRow : OpenClaim := { program := "ytpocnjliigjidaagreat", sum := "9cbf63a02101b44aaa614abcf8640398bd1f4e6fe4acc7082f86938a7020c07b", func := "headgate/headgatelaw40.ModelPages", spec := "modelPages", inPlace := ["maps.clone"], unfollowed := true, recurses := true, plainKeys := false, apart := false }
def ModelPagesSaid : Prop := modelPagesRow.holds Tryz.pinned (OpenSpec.ofChange modelPagesSpec)

/-- ITS FALSE NEIGHBOUR: 'it returns false'. Refute it at one input. -/
def modelPagesWrong : ChangeSpec := { name := "modelPages", fn := fun _ => fun
  | [d1, d2, d3] => { results := [.lit (.bool false)], args := [d1, d2, d3] }
  | _ => none }
def ModelPagesWrongFalsely : Prop := modelPagesRow.holds Tryz.pinned (OpenSpec.ofChange modelPagesWrong)

/-- 'headgatelaw40.ModelAllows': WHATEVER THE INPUT: true; the input reads as it did. -/
def modelAllowsSpec : ChangeSpec := { name := "modelAllows", fn := fun _ => fun
  | [d] => { results := [.lit (.bool true)], args := [d] }
  | _ => none }
def modelAllowsRow : OpenClaim := { program := "ytpocnjliigjidaagreat", sum := "9cbf63a02101b44aaa614abcf8640398bd1f4e6fe4acc7082f86938a7020c07b", func := "headgate/headgatelaw40.ModelAllows", spec := "modelAllows", inPlace := ["maps.clone"], unfollowed := true, recurses := true, plainKeys := false, apart := false }
def ModelAllowsSaid : Prop := modelAllowsRow.holds Tryz.pinned (OpenSpec.ofChange modelAllowsSpec)

/-- ITS FALSE NEIGHBOUR: 'it returns false'. Refute it at one input. -/
def modelAllowsWrong : ChangeSpec := { name := "modelAllows", fn := fun _ => fun
  | [d] => { results := [.lit (.bool false)], args := [d] }
  | _ => none }
def ModelAllowsWrongFalsely : Prop := modelAllowsRow.holds Tryz.pinned (OpenSpec.ofChange modelAllowsWrong)

/-- 'headgatelaw40.ModelNext': WHATEVER THE INPUT: true; the input reads as it did. -/
def modelNextSpec : ChangeSpec := { name := "modelNext", fn := fun _ => fun
  | [d1, d2] => { results := [.lit (.bool true)], args := [d1, d2] }
  | _ => none }
def modelNextRow : OpenClaim := { program := "ytpocnjliigjidaagreat", sum := "9cbf63a02101b44aaa614abcf8640398bd1f4e6fe4acc7082f86938a7020c07b", func := "headgate/headgatelaw40.ModelNext", spec := "modelNext", inPlace := ["maps.clone"], unfollowed := true, recurses := true, plainKeys := false, apart := false }
def ModelNextSaid : Prop := modelNextRow.holds Tryz.pinned (OpenSpec.ofChange modelNextSpec)

/-- ITS FALSE NEIGHBOUR: 'it returns false'. Refute it at one input. -/
def modelNextWrong : ChangeSpec := { name := "modelNext", fn := fun _ => fun
  | [d1, d2] => { results := [.lit (.bool false)], args := [d1, d2] }
  | _ => none }
def ModelNextWrongFalsely : Prop := modelNextRow.holds Tryz.pinned (OpenSpec.ofChange modelNextWrong)

/- THE SECOND FORM. 'bulk': how many values and letters a reading holds, each counted each time it is reached (what is shared counts as often as it is met; a slice's spare places count too). A statement '..UptoSaid' is the law's where the arguments, and the package variables that the reading takes, are together of bulk at most 1048576: NARROWER than '..Said'. Prove '..Said' where nothing that the law and all that it calls make is longer than what came in: it says more and counts as full. Else prove '..UptoSaid'. A law counts once. -/
mutual
def uptoBulk {H : Type} : DataW H → Nat
  | .lit (.string bytes) => bytes.length + 1
  | .lit _ => 1
  | .nil => 1
  | .ptr d => uptoBulk d + 1
  | .slice elems spare => uptoBulkAll elems + uptoBulkAll spare + 1
  | .agg parts => uptoBulkAll parts + 1
  | .iface _ d => uptoBulk d + 1
  | .map entries => uptoBulkEntries entries + 1
  | .held _ => 1
def uptoBulkAll {H : Type} : List (DataW H) → Nat
  | [] => 0
  | d :: r => uptoBulk d + uptoBulkAll r
def uptoBulkEntries {H : Type} : List (Lit × DataW H) → Nat
  | [] => 0
  | x :: r => uptoBulkEntry x + uptoBulkEntries r
def uptoBulkEntry {H : Type} : Lit × DataW H → Nat
  | (.string bytes, d) => bytes.length + uptoBulk d + 1
  | (_, d) => uptoBulk d + 1
 end
def uptoSmall : (H : Type) → List (DataW H) → Bool := fun _ ds => decide (uptoBulkAll ds ≤ 1048576)
def OpenSpec.upto (s : _root_.Go.ChangeSpec) : _root_.Go.OpenSpec := { _root_.Go.OpenSpec.ofChange s with cond := some uptoSmall }

/-- 'headgatelaw40.ModelPages', WHERE WHAT IT READS IS OF BULK AT MOST 1048576: true; the input reads as it did. -/
def modelPagesUptoRow : OpenClaim := { program := "ytpocnjliigjidaagreat", sum := "9cbf63a02101b44aaa614abcf8640398bd1f4e6fe4acc7082f86938a7020c07b", func := "headgate/headgatelaw40.ModelPages", spec := "modelPages", inPlace := ["maps.clone"], unfollowed := true, recurses := true, plainKeys := false, apart := false, narrowed := true }
def ModelPagesUptoSaid : Prop := modelPagesUptoRow.holds Tryz.pinned (OpenSpec.upto modelPagesSpec)

/-- 'headgatelaw40.ModelAllows', WHERE WHAT IT READS IS OF BULK AT MOST 1048576: true; the input reads as it did. -/
def modelAllowsUptoRow : OpenClaim := { program := "ytpocnjliigjidaagreat", sum := "9cbf63a02101b44aaa614abcf8640398bd1f4e6fe4acc7082f86938a7020c07b", func := "headgate/headgatelaw40.ModelAllows", spec := "modelAllows", inPlace := ["maps.clone"], unfollowed := true, recurses := true, plainKeys := false, apart := false, narrowed := true }
def ModelAllowsUptoSaid : Prop := modelAllowsUptoRow.holds Tryz.pinned (OpenSpec.upto modelAllowsSpec)

/-- 'headgatelaw40.ModelNext', WHERE WHAT IT READS IS OF BULK AT MOST 1048576: true; the input reads as it did. -/
def modelNextUptoRow : OpenClaim := { program := "ytpocnjliigjidaagreat", sum := "9cbf63a02101b44aaa614abcf8640398bd1f4e6fe4acc7082f86938a7020c07b", func := "headgate/headgatelaw40.ModelNext", spec := "modelNext", inPlace := ["maps.clone"], unfollowed := true, recurses := true, plainKeys := false, apart := false, narrowed := true }
def ModelNextUptoSaid : Prop := modelNextUptoRow.holds Tryz.pinned (OpenSpec.upto modelNextSpec)

end Rows
end Go.Proofs.YtpocnjliigjidaaGreat
