/-
  No cell of these rows narrows 'for every input' (looked for: loops, veiled, ifaces, maps, wideKeys, modest, calm, conditions, laid).
  DERIVED. THE GIVEN ROWS OF THIS SEAT. 6 by the template 'for every input the law returns true; each argument reads behind the call as it read before'; 0 by the template 'total and deterministic' (their statements: YtokocigmchfdfaaTotals.lean).
  GIVEN WITH THE SEED: the statements are not yours to turn. If you find one false, say at which input.
  Laid BY PROGRAM, IN A SANDBOX (cutbox-rows.mjs): the forced cells as the released guide's own fill.sh prints them over the translation 172695abe75f2f6c… (all of the seat's roots in one cut). By AI agents, Wed Nov 11 2026. No macro, syntax, notation, axiom, sorry.
-/
import Derived.Test.YtokocigmchfdfaaChecked
import GoSem.Claim
import GoSem.ClaimJoined
import GoSem.ClaimMapViews
import Derived.JoinedTies
import Derived.KernelRfl
namespace Go.Proofs.Ytokocigmchfdfaa
/- THE CELL 'sum', in the pinned program and in every row, IS THE sha256 OF THE DUMP (.gsa) THAT YtokocigmchfdfaaProg.lean LOADS. Nothing in Lean hashes anything: it is a label: what it is worth is what the hold of that sum in a sandbox is worth. -/
noncomputable def Try.pinned : Pinned := { name := "ytokocigmchfdfaa", sum := "172695abe75f2f6c3f986de0ce78788919aa8ece02f26eda2a88b10aea8bb895", checked := Try.checked }
namespace Rows
def none {H : Type} : Left H := { results := [], args := [] }

/-- 'headgatelaw13.CacheTakes': WHATEVER THE INPUT: true; the input reads as it did. -/
def cacheTakesSpec : ChangeSpec := { name := "cacheTakes", fn := fun _ => fun
  | [d1, d2, d3] => { results := [.lit (.bool true)], args := [d1, d2, d3] }
  | _ => none }
def cacheTakesRow : OpenClaim := { program := "ytokocigmchfdfaa", sum := "172695abe75f2f6c3f986de0ce78788919aa8ece02f26eda2a88b10aea8bb895", func := "headgate/headgatelaw13.CacheTakes", spec := "cacheTakes", inPlace := ["slices.overlaps[headgate/api.Slab]"], unfollowed := true, recurses := true, apart := false }
def CacheTakesSaid : Prop := cacheTakesRow.holds Try.pinned (OpenSpec.ofChange cacheTakesSpec)

/-- ITS FALSE NEIGHBOUR: 'it returns false'. Refute it at one input. -/
def cacheTakesWrong : ChangeSpec := { name := "cacheTakes", fn := fun _ => fun
  | [d1, d2, d3] => { results := [.lit (.bool false)], args := [d1, d2, d3] }
  | _ => none }
def CacheTakesWrongFalsely : Prop := cacheTakesRow.holds Try.pinned (OpenSpec.ofChange cacheTakesWrong)

/-- 'headgatelaw13.CacheKnown': WHATEVER THE INPUT: true; the input reads as it did. -/
def cacheKnownSpec : ChangeSpec := { name := "cacheKnown", fn := fun _ => fun
  | [] => { results := [.lit (.bool true)], args := [] }
  | _ => none }
def cacheKnownRow : OpenClaim := { program := "ytokocigmchfdfaa", sum := "172695abe75f2f6c3f986de0ce78788919aa8ece02f26eda2a88b10aea8bb895", func := "headgate/headgatelaw13.CacheKnown", spec := "cacheKnown", inPlace := ["slices.overlaps[headgate/api.Slab]"], unfollowed := true, recurses := true, apart := false }
def CacheKnownSaid : Prop := cacheKnownRow.holds Try.pinned (OpenSpec.ofChange cacheKnownSpec)

/-- ITS FALSE NEIGHBOUR: 'it returns false'. Refute it at one input. -/
def cacheKnownWrong : ChangeSpec := { name := "cacheKnown", fn := fun _ => fun
  | [] => { results := [.lit (.bool false)], args := [] }
  | _ => none }
def CacheKnownWrongFalsely : Prop := cacheKnownRow.holds Try.pinned (OpenSpec.ofChange cacheKnownWrong)

/-- 'headgatelaw13.CacheBack': WHATEVER THE INPUT: true; the input reads as it did. -/
def cacheBackSpec : ChangeSpec := { name := "cacheBack", fn := fun _ => fun
  | [d] => { results := [.lit (.bool true)], args := [d] }
  | _ => none }
def cacheBackRow : OpenClaim := { program := "ytokocigmchfdfaa", sum := "172695abe75f2f6c3f986de0ce78788919aa8ece02f26eda2a88b10aea8bb895", func := "headgate/headgatelaw13.CacheBack", spec := "cacheBack", inPlace := ["slices.overlaps[headgate/api.Slab]"], unfollowed := true, recurses := true, apart := false }
def CacheBackSaid : Prop := cacheBackRow.holds Try.pinned (OpenSpec.ofChange cacheBackSpec)

/-- ITS FALSE NEIGHBOUR: 'it returns false'. Refute it at one input. -/
def cacheBackWrong : ChangeSpec := { name := "cacheBack", fn := fun _ => fun
  | [d] => { results := [.lit (.bool false)], args := [d] }
  | _ => none }
def CacheBackWrongFalsely : Prop := cacheBackRow.holds Try.pinned (OpenSpec.ofChange cacheBackWrong)

/-- 'headgatelaw13.CacheTidy': WHATEVER THE INPUT: true; the input reads as it did. -/
def cacheTidySpec : ChangeSpec := { name := "cacheTidy", fn := fun _ => fun
  | [d] => { results := [.lit (.bool true)], args := [d] }
  | _ => none }
def cacheTidyRow : OpenClaim := { program := "ytokocigmchfdfaa", sum := "172695abe75f2f6c3f986de0ce78788919aa8ece02f26eda2a88b10aea8bb895", func := "headgate/headgatelaw13.CacheTidy", spec := "cacheTidy", inPlace := ["slices.overlaps[headgate/api.Slab]"], unfollowed := true, recurses := true, apart := false }
def CacheTidySaid : Prop := cacheTidyRow.holds Try.pinned (OpenSpec.ofChange cacheTidySpec)

/-- ITS FALSE NEIGHBOUR: 'it returns false'. Refute it at one input. -/
def cacheTidyWrong : ChangeSpec := { name := "cacheTidy", fn := fun _ => fun
  | [d] => { results := [.lit (.bool false)], args := [d] }
  | _ => none }
def CacheTidyWrongFalsely : Prop := cacheTidyRow.holds Try.pinned (OpenSpec.ofChange cacheTidyWrong)

/-- 'headgatelaw13.CacheEmpties': WHATEVER THE INPUT: true; the input reads as it did. -/
def cacheEmptiesSpec : ChangeSpec := { name := "cacheEmpties", fn := fun _ => fun
  | [d1, d2] => { results := [.lit (.bool true)], args := [d1, d2] }
  | _ => none }
def cacheEmptiesRow : OpenClaim := { program := "ytokocigmchfdfaa", sum := "172695abe75f2f6c3f986de0ce78788919aa8ece02f26eda2a88b10aea8bb895", func := "headgate/headgatelaw13.CacheEmpties", spec := "cacheEmpties", inPlace := ["slices.overlaps[headgate/api.Slab]"], unfollowed := true, recurses := true, apart := false }
def CacheEmptiesSaid : Prop := cacheEmptiesRow.holds Try.pinned (OpenSpec.ofChange cacheEmptiesSpec)

/-- ITS FALSE NEIGHBOUR: 'it returns false'. Refute it at one input. -/
def cacheEmptiesWrong : ChangeSpec := { name := "cacheEmpties", fn := fun _ => fun
  | [d1, d2] => { results := [.lit (.bool false)], args := [d1, d2] }
  | _ => none }
def CacheEmptiesWrongFalsely : Prop := cacheEmptiesRow.holds Try.pinned (OpenSpec.ofChange cacheEmptiesWrong)

/-- 'headgatelaw13.CacheChecks': WHATEVER THE INPUT: true; the input reads as it did. -/
def cacheChecksSpec : ChangeSpec := { name := "cacheChecks", fn := fun _ => fun
  | [d] => { results := [.lit (.bool true)], args := [d] }
  | _ => none }
def cacheChecksRow : OpenClaim := { program := "ytokocigmchfdfaa", sum := "172695abe75f2f6c3f986de0ce78788919aa8ece02f26eda2a88b10aea8bb895", func := "headgate/headgatelaw13.CacheChecks", spec := "cacheChecks", inPlace := ["slices.overlaps[headgate/api.Slab]"], unfollowed := true, recurses := true, apart := false }
def CacheChecksSaid : Prop := cacheChecksRow.holds Try.pinned (OpenSpec.ofChange cacheChecksSpec)

/-- ITS FALSE NEIGHBOUR: 'it returns false'. Refute it at one input. -/
def cacheChecksWrong : ChangeSpec := { name := "cacheChecks", fn := fun _ => fun
  | [d] => { results := [.lit (.bool false)], args := [d] }
  | _ => none }
def CacheChecksWrongFalsely : Prop := cacheChecksRow.holds Try.pinned (OpenSpec.ofChange cacheChecksWrong)

/- THE SECOND FORM. 'bulk': how many values and letters a reading holds, each counted each time it is reached (what is shared counts as often as it is met; a slice's spare places count too). A statement '..UptoSaid' is the law's where the arguments, and the package variables that the reading takes, are together of bulk at most 1048576: NARROWER than '..Said'. Prove '..Said' where nothing that the law and all that it calls make is longer than what came in: it says more and counts as full. Else prove '..UptoSaid'. A law counts once. -/
mutual
def uptoBulk {H : Type} : DataW H → Nat
  | .lit (.string bytes) => bytes.length + 1
  | .lit _ => 1
  | .nil => 1
  | .ptr d => uptoBulk d + 1
  | .slice elems spare => uptoBulkAll elems + uptoBulkAll spare + 1
  | .agg parts => uptoBulkAll parts + 1
  | .iface _ d => uptoBulk d + 1
  | .map entries => uptoBulkEntries entries + 1
  | .held _ => 1
def uptoBulkAll {H : Type} : List (DataW H) → Nat
  | [] => 0
  | d :: r => uptoBulk d + uptoBulkAll r
def uptoBulkEntries {H : Type} : List (Lit × DataW H) → Nat
  | [] => 0
  | x :: r => uptoBulkEntry x + uptoBulkEntries r
def uptoBulkEntry {H : Type} : Lit × DataW H → Nat
  | (.string bytes, d) => bytes.length + uptoBulk d + 1
  | (_, d) => uptoBulk d + 1
 end
def uptoSmall : (H : Type) → List (DataW H) → Bool := fun _ ds => decide (uptoBulkAll ds ≤ 1048576)
def OpenSpec.upto (s : _root_.Go.ChangeSpec) : _root_.Go.OpenSpec := { _root_.Go.OpenSpec.ofChange s with cond := some uptoSmall }

/-- 'headgatelaw13.CacheTakes', WHERE WHAT IT READS IS OF BULK AT MOST 1048576: true; the input reads as it did. -/
def cacheTakesUptoRow : OpenClaim := { program := "ytokocigmchfdfaa", sum := "172695abe75f2f6c3f986de0ce78788919aa8ece02f26eda2a88b10aea8bb895", func := "headgate/headgatelaw13.CacheTakes", spec := "cacheTakes", inPlace := ["slices.overlaps[headgate/api.Slab]"], unfollowed := true, recurses := true, apart := false, narrowed := true }
def CacheTakesUptoSaid : Prop := cacheTakesUptoRow.holds Try.pinned (OpenSpec.upto cacheTakesSpec)

/-- 'headgatelaw13.CacheKnown', WHERE WHAT IT READS IS OF BULK AT MOST 1048576: true; the input reads as it did. -/
def cacheKnownUptoRow : OpenClaim := { program := "ytokocigmchfdfaa", sum := "172695abe75f2f6c3f986de0ce78788919aa8ece02f26eda2a88b10aea8bb895", func := "headgate/headgatelaw13.CacheKnown", spec := "cacheKnown", inPlace := ["slices.overlaps[headgate/api.Slab]"], unfollowed := true, recurses := true, apart := false, narrowed := true }
def CacheKnownUptoSaid : Prop := cacheKnownUptoRow.holds Try.pinned (OpenSpec.upto cacheKnownSpec)

/-- 'headgatelaw13.CacheBack', WHERE WHAT IT READS IS OF BULK AT MOST 1048576: true; the input reads as it did. -/
def cacheBackUptoRow : OpenClaim := { program := "ytokocigmchfdfaa", sum := "172695abe75f2f6c3f986de0ce78788919aa8ece02f26eda2a88b10aea8bb895", func := "headgate/headgatelaw13.CacheBack", spec := "cacheBack", inPlace := ["slices.overlaps[headgate/api.Slab]"], unfollowed := true, recurses := true, apart := false, narrowed := true }
def CacheBackUptoSaid : Prop := cacheBackUptoRow.holds Try.pinned (OpenSpec.upto cacheBackSpec)

/-- 'headgatelaw13.CacheTidy', WHERE WHAT IT READS IS OF BULK AT MOST 1048576: true; the input reads as it did. -/
def cacheTidyUptoRow : OpenClaim := { program := "ytokocigmchfdfaa", sum := "172695abe75f2f6c3f986de0ce78788919aa8ece02f26eda2a88b10aea8bb895", func := "headgate/headgatelaw13.CacheTidy", spec := "cacheTidy", inPlace := ["slices.overlaps[headgate/api.Slab]"], unfollowed := true, recurses := true, apart := false, narrowed := true }
def CacheTidyUptoSaid : Prop := cacheTidyUptoRow.holds Try.pinned (OpenSpec.upto cacheTidySpec)

/-- 'headgatelaw13.CacheEmpties', WHERE WHAT IT READS IS OF BULK AT MOST 1048576: true; the input reads as it did. -/
def cacheEmptiesUptoRow : OpenClaim := { program := "ytokocigmchfdfaa", sum := "172695abe75f2f6c3f986de0ce78788919aa8ece02f26eda2a88b10aea8bb895", func := "headgate/headgatelaw13.CacheEmpties", spec := "cacheEmpties", inPlace := ["slices.overlaps[headgate/api.Slab]"], unfollowed := true, recurses := true, apart := false, narrowed := true }
def CacheEmptiesUptoSaid : Prop := cacheEmptiesUptoRow.holds Try.pinned (OpenSpec.upto cacheEmptiesSpec)

/-- 'headgatelaw13.CacheChecks', WHERE WHAT IT READS IS OF BULK AT MOST 1048576: true; the input reads as it did. -/
def cacheChecksUptoRow : OpenClaim := { program := "ytokocigmchfdfaa", sum := "172695abe75f2f6c3f986de0ce78788919aa8ece02f26eda2a88b10aea8bb895", func := "headgate/headgatelaw13.CacheChecks", spec := "cacheChecks", inPlace := ["slices.overlaps[headgate/api.Slab]"], unfollowed := true, recurses := true, apart := false, narrowed := true }
def CacheChecksUptoSaid : Prop := cacheChecksUptoRow.holds Try.pinned (OpenSpec.upto cacheChecksSpec)

end Rows
end Go.Proofs.Ytokocigmchfdfaa
