/-
  No cell of these rows narrows 'for every input' (looked for: loops, veiled, ifaces, maps, wideKeys, modest, calm, conditions, laid).
  DERIVED. THE GIVEN ROWS OF THIS SEAT. 9 by the template 'for every input the law returns true; each argument reads behind the call as it read before'; 0 by the template 'total and deterministic' (their statements: YtfbagecopapfhaaTotals.lean).
  GIVEN WITH THE SEED: the statements are not yours to turn. If you find one false, say at which input.
  Laid BY PROGRAM, IN A SANDBOX (cutbox-rows.mjs): the forced cells as the released guide's own fill.sh prints them over the translation cf6385a8e87c15cd… (all of the seat's roots in one cut). By AI agents, Wed Nov 11 2026. No macro, syntax, notation, axiom, sorry.
-/
import Derived.Test.YtfbagecopapfhaaChecked
import GoSem.Claim
import GoSem.ClaimJoined
import GoSem.ClaimMapViews
import Derived.JoinedTies
import Derived.KernelRfl
namespace Go.Proofs.Ytfbagecopapfhaa
/- THE CELL 'sum', in the pinned program and in every row, IS THE sha256 OF THE DUMP (.gsa) THAT YtfbagecopapfhaaProg.lean LOADS. Nothing in Lean hashes anything: it is a label: what it is worth is what the hold of that sum in a sandbox is worth. -/
noncomputable def Try.pinned : Pinned := { name := "ytfbagecopapfhaa", sum := "cf6385a8e87c15cd00b6da6063b2a4e9a2021ee63f0c9c8100895210d9e8faa5", checked := Try.checked }
namespace Rows
def none {H : Type} : Left H := { results := [], args := [] }

/-- 'recensionlaw06.CommitNames': WHATEVER THE INPUT: true; the input reads as it did. -/
def commitNamesSpec : ChangeSpec := { name := "commitNames", fn := fun _ => fun
  | [d] => { results := [.lit (.bool true)], args := [d] }
  | _ => none }
def commitNamesRow : OpenClaim := { program := "ytfbagecopapfhaa", sum := "cf6385a8e87c15cd00b6da6063b2a4e9a2021ee63f0c9c8100895210d9e8faa5", func := "recension/recensionlaw06.CommitNames", spec := "commitNames", inPlace := ["internal/bytealg.IndexByteString"], unfollowed := true, recurses := true, apart := false }
def CommitNamesSaid : Prop := commitNamesRow.holds Try.pinned (OpenSpec.ofChange commitNamesSpec)

/-- ITS FALSE NEIGHBOUR: 'it returns false'. Refute it at one input. -/
def commitNamesWrong : ChangeSpec := { name := "commitNames", fn := fun _ => fun
  | [d] => { results := [.lit (.bool false)], args := [d] }
  | _ => none }
def CommitNamesWrongFalsely : Prop := commitNamesRow.holds Try.pinned (OpenSpec.ofChange commitNamesWrong)

/-- 'recensionlaw06.CommitRights': WHATEVER THE INPUT: true; the input reads as it did. -/
def commitRightsSpec : ChangeSpec := { name := "commitRights", fn := fun _ => fun
  | [d1, d2] => { results := [.lit (.bool true)], args := [d1, d2] }
  | _ => none }
def commitRightsRow : OpenClaim := { program := "ytfbagecopapfhaa", sum := "cf6385a8e87c15cd00b6da6063b2a4e9a2021ee63f0c9c8100895210d9e8faa5", func := "recension/recensionlaw06.CommitRights", spec := "commitRights", inPlace := ["internal/bytealg.IndexByteString"], unfollowed := true, recurses := true, apart := false }
def CommitRightsSaid : Prop := commitRightsRow.holds Try.pinned (OpenSpec.ofChange commitRightsSpec)

/-- ITS FALSE NEIGHBOUR: 'it returns false'. Refute it at one input. -/
def commitRightsWrong : ChangeSpec := { name := "commitRights", fn := fun _ => fun
  | [d1, d2] => { results := [.lit (.bool false)], args := [d1, d2] }
  | _ => none }
def CommitRightsWrongFalsely : Prop := commitRightsRow.holds Try.pinned (OpenSpec.ofChange commitRightsWrong)

/-- 'recensionlaw06.CommitMays': WHATEVER THE INPUT: true; the input reads as it did. -/
def commitMaysSpec : ChangeSpec := { name := "commitMays", fn := fun _ => fun
  | [d] => { results := [.lit (.bool true)], args := [d] }
  | _ => none }
def commitMaysRow : OpenClaim := { program := "ytfbagecopapfhaa", sum := "cf6385a8e87c15cd00b6da6063b2a4e9a2021ee63f0c9c8100895210d9e8faa5", func := "recension/recensionlaw06.CommitMays", spec := "commitMays", inPlace := ["internal/bytealg.IndexByteString"], unfollowed := true, recurses := true, apart := false }
def CommitMaysSaid : Prop := commitMaysRow.holds Try.pinned (OpenSpec.ofChange commitMaysSpec)

/-- ITS FALSE NEIGHBOUR: 'it returns false'. Refute it at one input. -/
def commitMaysWrong : ChangeSpec := { name := "commitMays", fn := fun _ => fun
  | [d] => { results := [.lit (.bool false)], args := [d] }
  | _ => none }
def CommitMaysWrongFalsely : Prop := commitMaysRow.holds Try.pinned (OpenSpec.ofChange commitMaysWrong)

/-- 'recensionlaw06.CommitReads': WHATEVER THE INPUT: true; the input reads as it did. -/
def commitReadsSpec : ChangeSpec := { name := "commitReads", fn := fun _ => fun
  | [d] => { results := [.lit (.bool true)], args := [d] }
  | _ => none }
def commitReadsRow : OpenClaim := { program := "ytfbagecopapfhaa", sum := "cf6385a8e87c15cd00b6da6063b2a4e9a2021ee63f0c9c8100895210d9e8faa5", func := "recension/recensionlaw06.CommitReads", spec := "commitReads", inPlace := ["internal/bytealg.IndexByteString"], unfollowed := true, recurses := true, apart := false }
def CommitReadsSaid : Prop := commitReadsRow.holds Try.pinned (OpenSpec.ofChange commitReadsSpec)

/-- ITS FALSE NEIGHBOUR: 'it returns false'. Refute it at one input. -/
def commitReadsWrong : ChangeSpec := { name := "commitReads", fn := fun _ => fun
  | [d] => { results := [.lit (.bool false)], args := [d] }
  | _ => none }
def CommitReadsWrongFalsely : Prop := commitReadsRow.holds Try.pinned (OpenSpec.ofChange commitReadsWrong)

/-- 'recensionlaw06.CommitSames': WHATEVER THE INPUT: true; the input reads as it did. -/
def commitSamesSpec : ChangeSpec := { name := "commitSames", fn := fun _ => fun
  | [d1, d2] => { results := [.lit (.bool true)], args := [d1, d2] }
  | _ => none }
def commitSamesRow : OpenClaim := { program := "ytfbagecopapfhaa", sum := "cf6385a8e87c15cd00b6da6063b2a4e9a2021ee63f0c9c8100895210d9e8faa5", func := "recension/recensionlaw06.CommitSames", spec := "commitSames", inPlace := ["internal/bytealg.IndexByteString"], unfollowed := true, recurses := true, apart := false }
def CommitSamesSaid : Prop := commitSamesRow.holds Try.pinned (OpenSpec.ofChange commitSamesSpec)

/-- ITS FALSE NEIGHBOUR: 'it returns false'. Refute it at one input. -/
def commitSamesWrong : ChangeSpec := { name := "commitSames", fn := fun _ => fun
  | [d1, d2] => { results := [.lit (.bool false)], args := [d1, d2] }
  | _ => none }
def CommitSamesWrongFalsely : Prop := commitSamesRow.holds Try.pinned (OpenSpec.ofChange commitSamesWrong)

/-- 'recensionlaw06.CommitJust': WHATEVER THE INPUT: true; the input reads as it did. -/
def commitJustSpec : ChangeSpec := { name := "commitJust", fn := fun _ => fun
  | [d] => { results := [.lit (.bool true)], args := [d] }
  | _ => none }
def commitJustRow : OpenClaim := { program := "ytfbagecopapfhaa", sum := "cf6385a8e87c15cd00b6da6063b2a4e9a2021ee63f0c9c8100895210d9e8faa5", func := "recension/recensionlaw06.CommitJust", spec := "commitJust", inPlace := ["internal/bytealg.IndexByteString"], unfollowed := true, recurses := true, apart := false }
def CommitJustSaid : Prop := commitJustRow.holds Try.pinned (OpenSpec.ofChange commitJustSpec)

/-- ITS FALSE NEIGHBOUR: 'it returns false'. Refute it at one input. -/
def commitJustWrong : ChangeSpec := { name := "commitJust", fn := fun _ => fun
  | [d] => { results := [.lit (.bool false)], args := [d] }
  | _ => none }
def CommitJustWrongFalsely : Prop := commitJustRow.holds Try.pinned (OpenSpec.ofChange commitJustWrong)

/-- 'recensionlaw06.CommitHeads': WHATEVER THE INPUT: true; the input reads as it did. -/
def commitHeadsSpec : ChangeSpec := { name := "commitHeads", fn := fun _ => fun
  | [d1, d2] => { results := [.lit (.bool true)], args := [d1, d2] }
  | _ => none }
def commitHeadsRow : OpenClaim := { program := "ytfbagecopapfhaa", sum := "cf6385a8e87c15cd00b6da6063b2a4e9a2021ee63f0c9c8100895210d9e8faa5", func := "recension/recensionlaw06.CommitHeads", spec := "commitHeads", inPlace := ["internal/bytealg.IndexByteString"], unfollowed := true, recurses := true, apart := false }
def CommitHeadsSaid : Prop := commitHeadsRow.holds Try.pinned (OpenSpec.ofChange commitHeadsSpec)

/-- ITS FALSE NEIGHBOUR: 'it returns false'. Refute it at one input. -/
def commitHeadsWrong : ChangeSpec := { name := "commitHeads", fn := fun _ => fun
  | [d1, d2] => { results := [.lit (.bool false)], args := [d1, d2] }
  | _ => none }
def CommitHeadsWrongFalsely : Prop := commitHeadsRow.holds Try.pinned (OpenSpec.ofChange commitHeadsWrong)

/-- 'recensionlaw06.CommitUnlike': WHATEVER THE INPUT: true; the input reads as it did. -/
def commitUnlikeSpec : ChangeSpec := { name := "commitUnlike", fn := fun _ => fun
  | [d1, d2] => { results := [.lit (.bool true)], args := [d1, d2] }
  | _ => none }
def commitUnlikeRow : OpenClaim := { program := "ytfbagecopapfhaa", sum := "cf6385a8e87c15cd00b6da6063b2a4e9a2021ee63f0c9c8100895210d9e8faa5", func := "recension/recensionlaw06.CommitUnlike", spec := "commitUnlike", inPlace := ["internal/bytealg.IndexByteString"], unfollowed := true, recurses := true, apart := false }
def CommitUnlikeSaid : Prop := commitUnlikeRow.holds Try.pinned (OpenSpec.ofChange commitUnlikeSpec)

/-- ITS FALSE NEIGHBOUR: 'it returns false'. Refute it at one input. -/
def commitUnlikeWrong : ChangeSpec := { name := "commitUnlike", fn := fun _ => fun
  | [d1, d2] => { results := [.lit (.bool false)], args := [d1, d2] }
  | _ => none }
def CommitUnlikeWrongFalsely : Prop := commitUnlikeRow.holds Try.pinned (OpenSpec.ofChange commitUnlikeWrong)

/-- 'recensionlaw06.CommitRefs': WHATEVER THE INPUT: true; the input reads as it did. -/
def commitRefsSpec : ChangeSpec := { name := "commitRefs", fn := fun _ => fun
  | [d] => { results := [.lit (.bool true)], args := [d] }
  | _ => none }
def commitRefsRow : OpenClaim := { program := "ytfbagecopapfhaa", sum := "cf6385a8e87c15cd00b6da6063b2a4e9a2021ee63f0c9c8100895210d9e8faa5", func := "recension/recensionlaw06.CommitRefs", spec := "commitRefs", inPlace := ["internal/bytealg.IndexByteString"], unfollowed := true, recurses := true, apart := false }
def CommitRefsSaid : Prop := commitRefsRow.holds Try.pinned (OpenSpec.ofChange commitRefsSpec)

/-- ITS FALSE NEIGHBOUR: 'it returns false'. Refute it at one input. -/
def commitRefsWrong : ChangeSpec := { name := "commitRefs", fn := fun _ => fun
  | [d] => { results := [.lit (.bool false)], args := [d] }
  | _ => none }
def CommitRefsWrongFalsely : Prop := commitRefsRow.holds Try.pinned (OpenSpec.ofChange commitRefsWrong)

/- THE SECOND FORM. 'bulk': how many values and letters a reading holds, each counted each time it is reached (what is shared counts as often as it is met; a slice's spare places count too). A statement '..UptoSaid' is the law's where the arguments, and the package variables that the reading takes, are together of bulk at most 1048576: NARROWER than '..Said'. Prove '..Said' where nothing that the law and all that it calls make is longer than what came in: it says more and counts as full. Else prove '..UptoSaid'. A law counts once. -/
mutual
def uptoBulk {H : Type} : DataW H → Nat
  | .lit (.string bytes) => bytes.length + 1
  | .lit _ => 1
  | .nil => 1
  | .ptr d => uptoBulk d + 1
  | .slice elems spare => uptoBulkAll elems + uptoBulkAll spare + 1
  | .agg parts => uptoBulkAll parts + 1
  | .iface _ d => uptoBulk d + 1
  | .map entries => uptoBulkEntries entries + 1
  | .held _ => 1
def uptoBulkAll {H : Type} : List (DataW H) → Nat
  | [] => 0
  | d :: r => uptoBulk d + uptoBulkAll r
def uptoBulkEntries {H : Type} : List (Lit × DataW H) → Nat
  | [] => 0
  | x :: r => uptoBulkEntry x + uptoBulkEntries r
def uptoBulkEntry {H : Type} : Lit × DataW H → Nat
  | (.string bytes, d) => bytes.length + uptoBulk d + 1
  | (_, d) => uptoBulk d + 1
 end
def uptoSmall : (H : Type) → List (DataW H) → Bool := fun _ ds => decide (uptoBulkAll ds ≤ 1048576)
def OpenSpec.upto (s : _root_.Go.ChangeSpec) : _root_.Go.OpenSpec := { _root_.Go.OpenSpec.ofChange s with cond := some uptoSmall }

/-- 'recensionlaw06.CommitNames', WHERE WHAT IT READS IS OF BULK AT MOST 1048576: true; the input reads as it did. -/
def commitNamesUptoRow : OpenClaim := { program := "ytfbagecopapfhaa", sum := "cf6385a8e87c15cd00b6da6063b2a4e9a2021ee63f0c9c8100895210d9e8faa5", func := "recension/recensionlaw06.CommitNames", spec := "commitNames", inPlace := ["internal/bytealg.IndexByteString"], unfollowed := true, recurses := true, apart := false, narrowed := true }
def CommitNamesUptoSaid : Prop := commitNamesUptoRow.holds Try.pinned (OpenSpec.upto commitNamesSpec)

/-- 'recensionlaw06.CommitRights', WHERE WHAT IT READS IS OF BULK AT MOST 1048576: true; the input reads as it did. -/
def commitRightsUptoRow : OpenClaim := { program := "ytfbagecopapfhaa", sum := "cf6385a8e87c15cd00b6da6063b2a4e9a2021ee63f0c9c8100895210d9e8faa5", func := "recension/recensionlaw06.CommitRights", spec := "commitRights", inPlace := ["internal/bytealg.IndexByteString"], unfollowed := true, recurses := true, apart := false, narrowed := true }
def CommitRightsUptoSaid : Prop := commitRightsUptoRow.holds Try.pinned (OpenSpec.upto commitRightsSpec)

/-- 'recensionlaw06.CommitMays', WHERE WHAT IT READS IS OF BULK AT MOST 1048576: true; the input reads as it did. -/
def commitMaysUptoRow : OpenClaim := { program := "ytfbagecopapfhaa", sum := "cf6385a8e87c15cd00b6da6063b2a4e9a2021ee63f0c9c8100895210d9e8faa5", func := "recension/recensionlaw06.CommitMays", spec := "commitMays", inPlace := ["internal/bytealg.IndexByteString"], unfollowed := true, recurses := true, apart := false, narrowed := true }
def CommitMaysUptoSaid : Prop := commitMaysUptoRow.holds Try.pinned (OpenSpec.upto commitMaysSpec)

/-- 'recensionlaw06.CommitReads', WHERE WHAT IT READS IS OF BULK AT MOST 1048576: true; the input reads as it did. -/
def commitReadsUptoRow : OpenClaim := { program := "ytfbagecopapfhaa", sum := "cf6385a8e87c15cd00b6da6063b2a4e9a2021ee63f0c9c8100895210d9e8faa5", func := "recension/recensionlaw06.CommitReads", spec := "commitReads", inPlace := ["internal/bytealg.IndexByteString"], unfollowed := true, recurses := true, apart := false, narrowed := true }
def CommitReadsUptoSaid : Prop := commitReadsUptoRow.holds Try.pinned (OpenSpec.upto commitReadsSpec)

/-- 'recensionlaw06.CommitSames', WHERE WHAT IT READS IS OF BULK AT MOST 1048576: true; the input reads as it did. -/
def commitSamesUptoRow : OpenClaim := { program := "ytfbagecopapfhaa", sum := "cf6385a8e87c15cd00b6da6063b2a4e9a2021ee63f0c9c8100895210d9e8faa5", func := "recension/recensionlaw06.CommitSames", spec := "commitSames", inPlace := ["internal/bytealg.IndexByteString"], unfollowed := true, recurses := true, apart := false, narrowed := true }
def CommitSamesUptoSaid : Prop := commitSamesUptoRow.holds Try.pinned (OpenSpec.upto commitSamesSpec)

/-- 'recensionlaw06.CommitJust', WHERE WHAT IT READS IS OF BULK AT MOST 1048576: true; the input reads as it did. -/
def commitJustUptoRow : OpenClaim := { program := "ytfbagecopapfhaa", sum := "cf6385a8e87c15cd00b6da6063b2a4e9a2021ee63f0c9c8100895210d9e8faa5", func := "recension/recensionlaw06.CommitJust", spec := "commitJust", inPlace := ["internal/bytealg.IndexByteString"], unfollowed := true, recurses := true, apart := false, narrowed := true }
def CommitJustUptoSaid : Prop := commitJustUptoRow.holds Try.pinned (OpenSpec.upto commitJustSpec)

/-- 'recensionlaw06.CommitHeads', WHERE WHAT IT READS IS OF BULK AT MOST 1048576: true; the input reads as it did. -/
def commitHeadsUptoRow : OpenClaim := { program := "ytfbagecopapfhaa", sum := "cf6385a8e87c15cd00b6da6063b2a4e9a2021ee63f0c9c8100895210d9e8faa5", func := "recension/recensionlaw06.CommitHeads", spec := "commitHeads", inPlace := ["internal/bytealg.IndexByteString"], unfollowed := true, recurses := true, apart := false, narrowed := true }
def CommitHeadsUptoSaid : Prop := commitHeadsUptoRow.holds Try.pinned (OpenSpec.upto commitHeadsSpec)

/-- 'recensionlaw06.CommitUnlike', WHERE WHAT IT READS IS OF BULK AT MOST 1048576: true; the input reads as it did. -/
def commitUnlikeUptoRow : OpenClaim := { program := "ytfbagecopapfhaa", sum := "cf6385a8e87c15cd00b6da6063b2a4e9a2021ee63f0c9c8100895210d9e8faa5", func := "recension/recensionlaw06.CommitUnlike", spec := "commitUnlike", inPlace := ["internal/bytealg.IndexByteString"], unfollowed := true, recurses := true, apart := false, narrowed := true }
def CommitUnlikeUptoSaid : Prop := commitUnlikeUptoRow.holds Try.pinned (OpenSpec.upto commitUnlikeSpec)

/-- 'recensionlaw06.CommitRefs', WHERE WHAT IT READS IS OF BULK AT MOST 1048576: true; the input reads as it did. -/
def commitRefsUptoRow : OpenClaim := { program := "ytfbagecopapfhaa", sum := "cf6385a8e87c15cd00b6da6063b2a4e9a2021ee63f0c9c8100895210d9e8faa5", func := "recension/recensionlaw06.CommitRefs", spec := "commitRefs", inPlace := ["internal/bytealg.IndexByteString"], unfollowed := true, recurses := true, apart := false, narrowed := true }
def CommitRefsUptoSaid : Prop := commitRefsUptoRow.holds Try.pinned (OpenSpec.upto commitRefsSpec)

end Rows
end Go.Proofs.Ytfbagecopapfhaa
