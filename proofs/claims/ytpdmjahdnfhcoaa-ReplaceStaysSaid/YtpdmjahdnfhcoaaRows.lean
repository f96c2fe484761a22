/-
  No cell of these rows narrows 'for every input' (looked for: loops, veiled, ifaces, maps, wideKeys, modest, calm, conditions, laid).
  DERIVED. THE GIVEN ROWS OF THIS SEAT. 4 by the template 'for every input the law returns true; each argument reads behind the call as it read before'; 0 by the template 'total and deterministic' (their statements: YtpdmjahdnfhcoaaTotals.lean).
  GIVEN WITH THE SEED: the statements are not yours to turn. If you find one false, say at which input.
  Laid BY PROGRAM, IN A SANDBOX (cutbox-rows.mjs): the forced cells as the released guide's own fill.sh prints them over the translation 15be9aa60076ef92… (all of the seat's roots in one cut). By AI agents, Wed Nov 11 2026. No macro, syntax, notation, axiom, sorry.
-/
import Derived.Test.YtpdmjahdnfhcoaaChecked
import GoSem.Claim
import GoSem.ClaimJoined
import GoSem.ClaimMapViews
import Derived.JoinedTies
import Derived.KernelRfl
namespace Go.Proofs.Ytpdmjahdnfhcoaa
/- THE CELL 'sum', in the pinned program and in every row, IS THE sha256 OF THE DUMP (.gsa) THAT YtpdmjahdnfhcoaaProg.lean LOADS. Nothing in Lean hashes anything: it is a label: what it is worth is what the hold of that sum in a sandbox is worth. -/
noncomputable def Try.pinned : Pinned := { name := "ytpdmjahdnfhcoaa", sum := "15be9aa60076ef927337d540a43843b1c5981a0512129d1192917e6487cc02c1", checked := Try.checked }
namespace Rows
def none {H : Type} : Left H := { results := [], args := [] }

/-- 'erratalaw47.ReplaceAsks': WHATEVER THE INPUT: true; the input reads as it did. -/
def replaceAsksSpec : ChangeSpec := { name := "replaceAsks", fn := fun _ => fun
  | [d1, d2, d3, d4, d5, d6] => { results := [.lit (.bool true)], args := [d1, d2, d3, d4, d5, d6] }
  | _ => none }
def replaceAsksRow : OpenClaim := { program := "ytpdmjahdnfhcoaa", sum := "15be9aa60076ef927337d540a43843b1c5981a0512129d1192917e6487cc02c1", func := "errata/erratalaw47.ReplaceAsks", spec := "replaceAsks", unfollowed := true, recurses := true, apart := false }
def ReplaceAsksSaid : Prop := replaceAsksRow.holds Try.pinned (OpenSpec.ofChange replaceAsksSpec)

/-- ITS FALSE NEIGHBOUR: 'it returns false'. Refute it at one input. -/
def replaceAsksWrong : ChangeSpec := { name := "replaceAsks", fn := fun _ => fun
  | [d1, d2, d3, d4, d5, d6] => { results := [.lit (.bool false)], args := [d1, d2, d3, d4, d5, d6] }
  | _ => none }
def ReplaceAsksWrongFalsely : Prop := replaceAsksRow.holds Try.pinned (OpenSpec.ofChange replaceAsksWrong)

/-- 'erratalaw47.ReplaceSides': WHATEVER THE INPUT: true; the input reads as it did. -/
def replaceSidesSpec : ChangeSpec := { name := "replaceSides", fn := fun _ => fun
  | [d1, d2] => { results := [.lit (.bool true)], args := [d1, d2] }
  | _ => none }
def replaceSidesRow : OpenClaim := { program := "ytpdmjahdnfhcoaa", sum := "15be9aa60076ef927337d540a43843b1c5981a0512129d1192917e6487cc02c1", func := "errata/erratalaw47.ReplaceSides", spec := "replaceSides", unfollowed := true, recurses := true, apart := false }
def ReplaceSidesSaid : Prop := replaceSidesRow.holds Try.pinned (OpenSpec.ofChange replaceSidesSpec)

/-- ITS FALSE NEIGHBOUR: 'it returns false'. Refute it at one input. -/
def replaceSidesWrong : ChangeSpec := { name := "replaceSides", fn := fun _ => fun
  | [d1, d2] => { results := [.lit (.bool false)], args := [d1, d2] }
  | _ => none }
def ReplaceSidesWrongFalsely : Prop := replaceSidesRow.holds Try.pinned (OpenSpec.ofChange replaceSidesWrong)

/-- 'erratalaw47.ReplaceTimeline': WHATEVER THE INPUT: true; the input reads as it did. -/
def replaceTimelineSpec : ChangeSpec := { name := "replaceTimeline", fn := fun _ => fun
  | [d1, d2] => { results := [.lit (.bool true)], args := [d1, d2] }
  | _ => none }
def replaceTimelineRow : OpenClaim := { program := "ytpdmjahdnfhcoaa", sum := "15be9aa60076ef927337d540a43843b1c5981a0512129d1192917e6487cc02c1", func := "errata/erratalaw47.ReplaceTimeline", spec := "replaceTimeline", unfollowed := true, recurses := true, apart := false }
def ReplaceTimelineSaid : Prop := replaceTimelineRow.holds Try.pinned (OpenSpec.ofChange replaceTimelineSpec)

/-- ITS FALSE NEIGHBOUR: 'it returns false'. Refute it at one input. -/
def replaceTimelineWrong : ChangeSpec := { name := "replaceTimeline", fn := fun _ => fun
  | [d1, d2] => { results := [.lit (.bool false)], args := [d1, d2] }
  | _ => none }
def ReplaceTimelineWrongFalsely : Prop := replaceTimelineRow.holds Try.pinned (OpenSpec.ofChange replaceTimelineWrong)

/-- 'erratalaw47.ReplaceStays': WHATEVER THE INPUT: true; the input reads as it did. -/
def replaceStaysSpec : ChangeSpec := { name := "replaceStays", fn := fun _ => fun
  | [d1, d2] => { results := [.lit (.bool true)], args := [d1, d2] }
  | _ => none }
def replaceStaysRow : OpenClaim := { program := "ytpdmjahdnfhcoaa", sum := "15be9aa60076ef927337d540a43843b1c5981a0512129d1192917e6487cc02c1", func := "errata/erratalaw47.ReplaceStays", spec := "replaceStays", unfollowed := true, recurses := true, apart := false }
def ReplaceStaysSaid : Prop := replaceStaysRow.holds Try.pinned (OpenSpec.ofChange replaceStaysSpec)

/-- ITS FALSE NEIGHBOUR: 'it returns false'. Refute it at one input. -/
def replaceStaysWrong : ChangeSpec := { name := "replaceStays", fn := fun _ => fun
  | [d1, d2] => { results := [.lit (.bool false)], args := [d1, d2] }
  | _ => none }
def ReplaceStaysWrongFalsely : Prop := replaceStaysRow.holds Try.pinned (OpenSpec.ofChange replaceStaysWrong)

/- THE SECOND FORM. 'bulk': how many values and letters a reading holds, each counted each time it is reached (what is shared counts as often as it is met; a slice's spare places count too). A statement '..UptoSaid' is the law's where the arguments, and the package variables that the reading takes, are together of bulk at most 1048576: NARROWER than '..Said'. Prove '..Said' where nothing that the law and all that it calls make is longer than what came in: it says more and counts as full. Else prove '..UptoSaid'. A law counts once. -/
mutual
def uptoBulk {H : Type} : DataW H → Nat
  | .lit (.string bytes) => bytes.length + 1
  | .lit _ => 1
  | .nil => 1
  | .ptr d => uptoBulk d + 1
  | .slice elems spare => uptoBulkAll elems + uptoBulkAll spare + 1
  | .agg parts => uptoBulkAll parts + 1
  | .iface _ d => uptoBulk d + 1
  | .map entries => uptoBulkEntries entries + 1
  | .held _ => 1
def uptoBulkAll {H : Type} : List (DataW H) → Nat
  | [] => 0
  | d :: r => uptoBulk d + uptoBulkAll r
def uptoBulkEntries {H : Type} : List (Lit × DataW H) → Nat
  | [] => 0
  | x :: r => uptoBulkEntry x + uptoBulkEntries r
def uptoBulkEntry {H : Type} : Lit × DataW H → Nat
  | (.string bytes, d) => bytes.length + uptoBulk d + 1
  | (_, d) => uptoBulk d + 1
 end
def uptoSmall : (H : Type) → List (DataW H) → Bool := fun _ ds => decide (uptoBulkAll ds ≤ 1048576)
def OpenSpec.upto (s : _root_.Go.ChangeSpec) : _root_.Go.OpenSpec := { _root_.Go.OpenSpec.ofChange s with cond := some uptoSmall }

/-- 'erratalaw47.ReplaceAsks', WHERE WHAT IT READS IS OF BULK AT MOST 1048576: true; the input reads as it did. -/
def replaceAsksUptoRow : OpenClaim := { program := "ytpdmjahdnfhcoaa", sum := "15be9aa60076ef927337d540a43843b1c5981a0512129d1192917e6487cc02c1", func := "errata/erratalaw47.ReplaceAsks", spec := "replaceAsks", unfollowed := true, recurses := true, apart := false, narrowed := true }
def ReplaceAsksUptoSaid : Prop := replaceAsksUptoRow.holds Try.pinned (OpenSpec.upto replaceAsksSpec)

/-- 'erratalaw47.ReplaceSides', WHERE WHAT IT READS IS OF BULK AT MOST 1048576: true; the input reads as it did. -/
def replaceSidesUptoRow : OpenClaim := { program := "ytpdmjahdnfhcoaa", sum := "15be9aa60076ef927337d540a43843b1c5981a0512129d1192917e6487cc02c1", func := "errata/erratalaw47.ReplaceSides", spec := "replaceSides", unfollowed := true, recurses := true, apart := false, narrowed := true }
def ReplaceSidesUptoSaid : Prop := replaceSidesUptoRow.holds Try.pinned (OpenSpec.upto replaceSidesSpec)

/-- 'erratalaw47.ReplaceTimeline', WHERE WHAT IT READS IS OF BULK AT MOST 1048576: true; the input reads as it did. -/
def replaceTimelineUptoRow : OpenClaim := { program := "ytpdmjahdnfhcoaa", sum := "15be9aa60076ef927337d540a43843b1c5981a0512129d1192917e6487cc02c1", func := "errata/erratalaw47.ReplaceTimeline", spec := "replaceTimeline", unfollowed := true, recurses := true, apart := false, narrowed := true }
def ReplaceTimelineUptoSaid : Prop := replaceTimelineUptoRow.holds Try.pinned (OpenSpec.upto replaceTimelineSpec)

/-- 'erratalaw47.ReplaceStays', WHERE WHAT IT READS IS OF BULK AT MOST 1048576: true; the input reads as it did. -/
def replaceStaysUptoRow : OpenClaim := { program := "ytpdmjahdnfhcoaa", sum := "15be9aa60076ef927337d540a43843b1c5981a0512129d1192917e6487cc02c1", func := "errata/erratalaw47.ReplaceStays", spec := "replaceStays", unfollowed := true, recurses := true, apart := false, narrowed := true }
def ReplaceStaysUptoSaid : Prop := replaceStaysUptoRow.holds Try.pinned (OpenSpec.upto replaceStaysSpec)

end Rows
end Go.Proofs.Ytpdmjahdnfhcoaa
