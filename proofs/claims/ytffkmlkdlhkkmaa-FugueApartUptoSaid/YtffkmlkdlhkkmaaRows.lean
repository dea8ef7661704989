/-
  No cell of these rows narrows 'for every input' (looked for: loops, veiled, ifaces, maps, wideKeys, modest, calm, conditions, laid).
  DERIVED. THE GIVEN ROWS OF THIS SEAT. 8 by the template 'for every input the law returns true; each argument reads behind the call as it read before'; 0 by the template 'total and deterministic' (their statements: YtffkmlkdlhkkmaaTotals.lean).
  GIVEN WITH THE SEED: the statements are not yours to turn. If you find one false, say at which input.
  Laid BY PROGRAM, IN A SANDBOX (cutbox-rows.mjs): the forced cells as the released guide's own fill.sh prints them over the translation d5f369bef70007b0… (all of the seat's roots in one cut). By AI agents, Wed Nov 11 2026. No macro, syntax, notation, axiom, sorry.
-/
import Derived.Test.YtffkmlkdlhkkmaaChecked
import GoSem.Claim
import GoSem.ClaimJoined
import GoSem.ClaimMapViews
import Derived.JoinedTies
import Derived.KernelRfl
namespace Go.Proofs.Ytffkmlkdlhkkmaa
/- THE CELL 'sum', in the pinned program and in every row, IS THE sha256 OF THE DUMP (.gsa) THAT YtffkmlkdlhkkmaaProg.lean LOADS. Nothing in Lean hashes anything: it is a label: what it is worth is what the hold of that sum in a sandbox is worth. -/
noncomputable def Try.pinned : Pinned := { name := "ytffkmlkdlhkkmaa", sum := "d5f369bef70007b0b530563ec5bf7689ef441e311e7aea6e97af4f95fa1f9c64", checked := Try.checked }
namespace Rows
def none {H : Type} : Left H := { results := [], args := [] }

/-- 'recensionlaw08.FugueInserts': WHATEVER THE INPUT: true; the input reads as it did. -/
def fugueInsertsSpec : ChangeSpec := { name := "fugueInserts", fn := fun _ => fun
  | [d1, d2, d3] => { results := [.lit (.bool true)], args := [d1, d2, d3] }
  | _ => none }
def fugueInsertsRow : OpenClaim := { program := "ytffkmlkdlhkkmaa", sum := "d5f369bef70007b0b530563ec5bf7689ef441e311e7aea6e97af4f95fa1f9c64", func := "recension/recensionlaw08.FugueInserts", spec := "fugueInserts", inPlace := ["slices.overlaps[*recension/fugue.node]"], unfollowed := true, recurses := true, plainKeys := false, apart := false }
def FugueInsertsSaid : Prop := fugueInsertsRow.holds Try.pinned (OpenSpec.ofChange fugueInsertsSpec)

/-- ITS FALSE NEIGHBOUR: 'it returns false'. Refute it at one input. -/
def fugueInsertsWrong : ChangeSpec := { name := "fugueInserts", fn := fun _ => fun
  | [d1, d2, d3] => { results := [.lit (.bool false)], args := [d1, d2, d3] }
  | _ => none }
def FugueInsertsWrongFalsely : Prop := fugueInsertsRow.holds Try.pinned (OpenSpec.ofChange fugueInsertsWrong)

/-- 'recensionlaw08.FugueWalks': WHATEVER THE INPUT: true; the input reads as it did. -/
def fugueWalksSpec : ChangeSpec := { name := "fugueWalks", fn := fun _ => fun
  | [d1, d2, d3] => { results := [.lit (.bool true)], args := [d1, d2, d3] }
  | _ => none }
def fugueWalksRow : OpenClaim := { program := "ytffkmlkdlhkkmaa", sum := "d5f369bef70007b0b530563ec5bf7689ef441e311e7aea6e97af4f95fa1f9c64", func := "recension/recensionlaw08.FugueWalks", spec := "fugueWalks", inPlace := ["slices.overlaps[*recension/fugue.node]"], unfollowed := true, recurses := true, plainKeys := false, apart := false }
def FugueWalksSaid : Prop := fugueWalksRow.holds Try.pinned (OpenSpec.ofChange fugueWalksSpec)

/-- ITS FALSE NEIGHBOUR: 'it returns false'. Refute it at one input. -/
def fugueWalksWrong : ChangeSpec := { name := "fugueWalks", fn := fun _ => fun
  | [d1, d2, d3] => { results := [.lit (.bool false)], args := [d1, d2, d3] }
  | _ => none }
def FugueWalksWrongFalsely : Prop := fugueWalksRow.holds Try.pinned (OpenSpec.ofChange fugueWalksWrong)

/-- 'recensionlaw08.FugueKeeps': WHATEVER THE INPUT: true; the input reads as it did. -/
def fugueKeepsSpec : ChangeSpec := { name := "fugueKeeps", fn := fun _ => fun
  | [d1, d2] => { results := [.lit (.bool true)], args := [d1, d2] }
  | _ => none }
def fugueKeepsRow : OpenClaim := { program := "ytffkmlkdlhkkmaa", sum := "d5f369bef70007b0b530563ec5bf7689ef441e311e7aea6e97af4f95fa1f9c64", func := "recension/recensionlaw08.FugueKeeps", spec := "fugueKeeps", inPlace := ["slices.overlaps[*recension/fugue.node]"], unfollowed := true, recurses := true, plainKeys := false, apart := false }
def FugueKeepsSaid : Prop := fugueKeepsRow.holds Try.pinned (OpenSpec.ofChange fugueKeepsSpec)

/-- ITS FALSE NEIGHBOUR: 'it returns false'. Refute it at one input. -/
def fugueKeepsWrong : ChangeSpec := { name := "fugueKeeps", fn := fun _ => fun
  | [d1, d2] => { results := [.lit (.bool false)], args := [d1, d2] }
  | _ => none }
def FugueKeepsWrongFalsely : Prop := fugueKeepsRow.holds Try.pinned (OpenSpec.ofChange fugueKeepsWrong)

/-- 'recensionlaw08.FugueAnyOrder': WHATEVER THE INPUT: true; the input reads as it did. -/
def fugueAnyOrderSpec : ChangeSpec := { name := "fugueAnyOrder", fn := fun _ => fun
  | [d1, d2] => { results := [.lit (.bool true)], args := [d1, d2] }
  | _ => none }
def fugueAnyOrderRow : OpenClaim := { program := "ytffkmlkdlhkkmaa", sum := "d5f369bef70007b0b530563ec5bf7689ef441e311e7aea6e97af4f95fa1f9c64", func := "recension/recensionlaw08.FugueAnyOrder", spec := "fugueAnyOrder", inPlace := ["slices.overlaps[*recension/fugue.node]"], unfollowed := true, recurses := true, plainKeys := false, apart := false }
def FugueAnyOrderSaid : Prop := fugueAnyOrderRow.holds Try.pinned (OpenSpec.ofChange fugueAnyOrderSpec)

/-- ITS FALSE NEIGHBOUR: 'it returns false'. Refute it at one input. -/
def fugueAnyOrderWrong : ChangeSpec := { name := "fugueAnyOrder", fn := fun _ => fun
  | [d1, d2] => { results := [.lit (.bool false)], args := [d1, d2] }
  | _ => none }
def FugueAnyOrderWrongFalsely : Prop := fugueAnyOrderRow.holds Try.pinned (OpenSpec.ofChange fugueAnyOrderWrong)

/-- 'recensionlaw08.FugueDeletes': WHATEVER THE INPUT: true; the input reads as it did. -/
def fugueDeletesSpec : ChangeSpec := { name := "fugueDeletes", fn := fun _ => fun
  | [d1, d2, d3] => { results := [.lit (.bool true)], args := [d1, d2, d3] }
  | _ => none }
def fugueDeletesRow : OpenClaim := { program := "ytffkmlkdlhkkmaa", sum := "d5f369bef70007b0b530563ec5bf7689ef441e311e7aea6e97af4f95fa1f9c64", func := "recension/recensionlaw08.FugueDeletes", spec := "fugueDeletes", inPlace := ["slices.overlaps[*recension/fugue.node]"], unfollowed := true, recurses := true, plainKeys := false, apart := false }
def FugueDeletesSaid : Prop := fugueDeletesRow.holds Try.pinned (OpenSpec.ofChange fugueDeletesSpec)

/-- ITS FALSE NEIGHBOUR: 'it returns false'. Refute it at one input. -/
def fugueDeletesWrong : ChangeSpec := { name := "fugueDeletes", fn := fun _ => fun
  | [d1, d2, d3] => { results := [.lit (.bool false)], args := [d1, d2, d3] }
  | _ => none }
def FugueDeletesWrongFalsely : Prop := fugueDeletesRow.holds Try.pinned (OpenSpec.ofChange fugueDeletesWrong)

/-- 'recensionlaw08.FugueGaps': WHATEVER THE INPUT: true; the input reads as it did. -/
def fugueGapsSpec : ChangeSpec := { name := "fugueGaps", fn := fun _ => fun
  | [d1, d2] => { results := [.lit (.bool true)], args := [d1, d2] }
  | _ => none }
def fugueGapsRow : OpenClaim := { program := "ytffkmlkdlhkkmaa", sum := "d5f369bef70007b0b530563ec5bf7689ef441e311e7aea6e97af4f95fa1f9c64", func := "recension/recensionlaw08.FugueGaps", spec := "fugueGaps", inPlace := ["slices.overlaps[*recension/fugue.node]"], unfollowed := true, recurses := true, plainKeys := false, apart := false }
def FugueGapsSaid : Prop := fugueGapsRow.holds Try.pinned (OpenSpec.ofChange fugueGapsSpec)

/-- ITS FALSE NEIGHBOUR: 'it returns false'. Refute it at one input. -/
def fugueGapsWrong : ChangeSpec := { name := "fugueGaps", fn := fun _ => fun
  | [d1, d2] => { results := [.lit (.bool false)], args := [d1, d2] }
  | _ => none }
def FugueGapsWrongFalsely : Prop := fugueGapsRow.holds Try.pinned (OpenSpec.ofChange fugueGapsWrong)

/-- 'recensionlaw08.FugueApart': WHATEVER THE INPUT: true; the input reads as it did. -/
def fugueApartSpec : ChangeSpec := { name := "fugueApart", fn := fun _ => fun
  | [d1, d2, d3] => { results := [.lit (.bool true)], args := [d1, d2, d3] }
  | _ => none }
def fugueApartRow : OpenClaim := { program := "ytffkmlkdlhkkmaa", sum := "d5f369bef70007b0b530563ec5bf7689ef441e311e7aea6e97af4f95fa1f9c64", func := "recension/recensionlaw08.FugueApart", spec := "fugueApart", inPlace := ["slices.overlaps[*recension/fugue.node]"], unfollowed := true, recurses := true, plainKeys := false, apart := false }
def FugueApartSaid : Prop := fugueApartRow.holds Try.pinned (OpenSpec.ofChange fugueApartSpec)

/-- ITS FALSE NEIGHBOUR: 'it returns false'. Refute it at one input. -/
def fugueApartWrong : ChangeSpec := { name := "fugueApart", fn := fun _ => fun
  | [d1, d2, d3] => { results := [.lit (.bool false)], args := [d1, d2, d3] }
  | _ => none }
def FugueApartWrongFalsely : Prop := fugueApartRow.holds Try.pinned (OpenSpec.ofChange fugueApartWrong)

/-- 'recensionlaw08.FuguePlays': WHATEVER THE INPUT: true; the input reads as it did. -/
def fuguePlaysSpec : ChangeSpec := { name := "fuguePlays", fn := fun _ => fun
  | [d] => { results := [.lit (.bool true)], args := [d] }
  | _ => none }
def fuguePlaysRow : OpenClaim := { program := "ytffkmlkdlhkkmaa", sum := "d5f369bef70007b0b530563ec5bf7689ef441e311e7aea6e97af4f95fa1f9c64", func := "recension/recensionlaw08.FuguePlays", spec := "fuguePlays", inPlace := ["slices.overlaps[*recension/fugue.node]"], unfollowed := true, recurses := true, plainKeys := false, apart := false }
def FuguePlaysSaid : Prop := fuguePlaysRow.holds Try.pinned (OpenSpec.ofChange fuguePlaysSpec)

/-- ITS FALSE NEIGHBOUR: 'it returns false'. Refute it at one input. -/
def fuguePlaysWrong : ChangeSpec := { name := "fuguePlays", fn := fun _ => fun
  | [d] => { results := [.lit (.bool false)], args := [d] }
  | _ => none }
def FuguePlaysWrongFalsely : Prop := fuguePlaysRow.holds Try.pinned (OpenSpec.ofChange fuguePlaysWrong)

/- THE SECOND FORM. 'bulk': how many values and letters a reading holds, each counted each time it is reached (what is shared counts as often as it is met; a slice's spare places count too). A statement '..UptoSaid' is the law's where the arguments, and the package variables that the reading takes, are together of bulk at most 1048576: NARROWER than '..Said'. Prove '..Said' where nothing that the law and all that it calls make is longer than what came in: it says more and counts as full. Else prove '..UptoSaid'. A law counts once. -/
mutual
def uptoBulk {H : Type} : DataW H → Nat
  | .lit (.string bytes) => bytes.length + 1
  | .lit _ => 1
  | .nil => 1
  | .ptr d => uptoBulk d + 1
  | .slice elems spare => uptoBulkAll elems + uptoBulkAll spare + 1
  | .agg parts => uptoBulkAll parts + 1
  | .iface _ d => uptoBulk d + 1
  | .map entries => uptoBulkEntries entries + 1
  | .held _ => 1
def uptoBulkAll {H : Type} : List (DataW H) → Nat
  | [] => 0
  | d :: r => uptoBulk d + uptoBulkAll r
def uptoBulkEntries {H : Type} : List (Lit × DataW H) → Nat
  | [] => 0
  | x :: r => uptoBulkEntry x + uptoBulkEntries r
def uptoBulkEntry {H : Type} : Lit × DataW H → Nat
  | (.string bytes, d) => bytes.length + uptoBulk d + 1
  | (_, d) => uptoBulk d + 1
 end
def uptoSmall : (H : Type) → List (DataW H) → Bool := fun _ ds => decide (uptoBulkAll ds ≤ 1048576)
def OpenSpec.upto (s : _root_.Go.ChangeSpec) : _root_.Go.OpenSpec := { _root_.Go.OpenSpec.ofChange s with cond := some uptoSmall }

/-- 'recensionlaw08.FugueInserts', WHERE WHAT IT READS IS OF BULK AT MOST 1048576: true; the input reads as it did. -/
def fugueInsertsUptoRow : OpenClaim := { program := "ytffkmlkdlhkkmaa", sum := "d5f369bef70007b0b530563ec5bf7689ef441e311e7aea6e97af4f95fa1f9c64", func := "recension/recensionlaw08.FugueInserts", spec := "fugueInserts", inPlace := ["slices.overlaps[*recension/fugue.node]"], unfollowed := true, recurses := true, plainKeys := false, apart := false, narrowed := true }
def FugueInsertsUptoSaid : Prop := fugueInsertsUptoRow.holds Try.pinned (OpenSpec.upto fugueInsertsSpec)

/-- 'recensionlaw08.FugueWalks', WHERE WHAT IT READS IS OF BULK AT MOST 1048576: true; the input reads as it did. -/
def fugueWalksUptoRow : OpenClaim := { program := "ytffkmlkdlhkkmaa", sum := "d5f369bef70007b0b530563ec5bf7689ef441e311e7aea6e97af4f95fa1f9c64", func := "recension/recensionlaw08.FugueWalks", spec := "fugueWalks", inPlace := ["slices.overlaps[*recension/fugue.node]"], unfollowed := true, recurses := true, plainKeys := false, apart := false, narrowed := true }
def FugueWalksUptoSaid : Prop := fugueWalksUptoRow.holds Try.pinned (OpenSpec.upto fugueWalksSpec)

/-- 'recensionlaw08.FugueKeeps', WHERE WHAT IT READS IS OF BULK AT MOST 1048576: true; the input reads as it did. -/
def fugueKeepsUptoRow : OpenClaim := { program := "ytffkmlkdlhkkmaa", sum := "d5f369bef70007b0b530563ec5bf7689ef441e311e7aea6e97af4f95fa1f9c64", func := "recension/recensionlaw08.FugueKeeps", spec := "fugueKeeps", inPlace := ["slices.overlaps[*recension/fugue.node]"], unfollowed := true, recurses := true, plainKeys := false, apart := false, narrowed := true }
def FugueKeepsUptoSaid : Prop := fugueKeepsUptoRow.holds Try.pinned (OpenSpec.upto fugueKeepsSpec)

/-- 'recensionlaw08.FugueAnyOrder', WHERE WHAT IT READS IS OF BULK AT MOST 1048576: true; the input reads as it did. -/
def fugueAnyOrderUptoRow : OpenClaim := { program := "ytffkmlkdlhkkmaa", sum := "d5f369bef70007b0b530563ec5bf7689ef441e311e7aea6e97af4f95fa1f9c64", func := "recension/recensionlaw08.FugueAnyOrder", spec := "fugueAnyOrder", inPlace := ["slices.overlaps[*recension/fugue.node]"], unfollowed := true, recurses := true, plainKeys := false, apart := false, narrowed := true }
def FugueAnyOrderUptoSaid : Prop := fugueAnyOrderUptoRow.holds Try.pinned (OpenSpec.upto fugueAnyOrderSpec)

/-- 'recensionlaw08.FugueDeletes', WHERE WHAT IT READS IS OF BULK AT MOST 1048576: true; the input reads as it did. -/
def fugueDeletesUptoRow : OpenClaim := { program := "ytffkmlkdlhkkmaa", sum := "d5f369bef70007b0b530563ec5bf7689ef441e311e7aea6e97af4f95fa1f9c64", func := "recension/recensionlaw08.FugueDeletes", spec := "fugueDeletes", inPlace := ["slices.overlaps[*recension/fugue.node]"], unfollowed := true, recurses := true, plainKeys := false, apart := false, narrowed := true }
def FugueDeletesUptoSaid : Prop := fugueDeletesUptoRow.holds Try.pinned (OpenSpec.upto fugueDeletesSpec)

/-- 'recensionlaw08.FugueGaps', WHERE WHAT IT READS IS OF BULK AT MOST 1048576: true; the input reads as it did. -/
def fugueGapsUptoRow : OpenClaim := { program := "ytffkmlkdlhkkmaa", sum := "d5f369bef70007b0b530563ec5bf7689ef441e311e7aea6e97af4f95fa1f9c64", func := "recension/recensionlaw08.FugueGaps", spec := "fugueGaps", inPlace := ["slices.overlaps[*recension/fugue.node]"], unfollowed := true, recurses := true, plainKeys := false, apart := false, narrowed := true }
def FugueGapsUptoSaid : Prop := fugueGapsUptoRow.holds Try.pinned (OpenSpec.upto fugueGapsSpec)

/-- 'recensionlaw08.FugueApart', WHERE WHAT IT READS IS OF BULK AT MOST 1048576: true; the input reads as it did. -/
def fugueApartUptoRow : OpenClaim := { program := "ytffkmlkdlhkkmaa", sum := "d5f369bef70007b0b530563ec5bf7689ef441e311e7aea6e97af4f95fa1f9c64", func := "recension/recensionlaw08.FugueApart", spec := "fugueApart", inPlace := ["slices.overlaps[*recension/fugue.node]"], unfollowed := true, recurses := true, plainKeys := false, apart := false, narrowed := true }
def FugueApartUptoSaid : Prop := fugueApartUptoRow.holds Try.pinned (OpenSpec.upto fugueApartSpec)

/-- 'recensionlaw08.FuguePlays', WHERE WHAT IT READS IS OF BULK AT MOST 1048576: true; the input reads as it did. -/
def fuguePlaysUptoRow : OpenClaim := { program := "ytffkmlkdlhkkmaa", sum := "d5f369bef70007b0b530563ec5bf7689ef441e311e7aea6e97af4f95fa1f9c64", func := "recension/recensionlaw08.FuguePlays", spec := "fuguePlays", inPlace := ["slices.overlaps[*recension/fugue.node]"], unfollowed := true, recurses := true, plainKeys := false, apart := false, narrowed := true }
def FuguePlaysUptoSaid : Prop := fuguePlaysUptoRow.holds Try.pinned (OpenSpec.upto fuguePlaysSpec)

end Rows
end Go.Proofs.Ytffkmlkdlhkkmaa
