/-
  No cell of these rows narrows 'for every input' (looked for: loops, veiled, ifaces, maps, wideKeys, modest, calm, conditions, laid).
  DERIVED. THE GIVEN ROWS OF THIS SEAT. 7 by the template 'for every input the law returns true; each argument reads behind the call as it read before'; 0 by the template 'total and deterministic' (their statements: YtmndofgagngcgaaTotals.lean).
  GIVEN WITH THE SEED: the statements are not yours to turn. If you find one false, say at which input.
  Laid BY PROGRAM, IN A SANDBOX (cutbox-rows.mjs): the forced cells as the released guide's own fill.sh prints them over the translation d30d1857377ab719… (all of the seat's roots in one cut). By AI agents, Wed Nov 11 2026. No macro, syntax, notation, axiom, sorry.
-/
import Derived.Test.YtmndofgagngcgaaChecked
import GoSem.Claim
import GoSem.ClaimJoined
import GoSem.ClaimMapViews
import Derived.JoinedTies
import Derived.KernelRfl
namespace Go.Proofs.Ytmndofgagngcgaa
/- THE CELL 'sum', in the pinned program and in every row, IS THE sha256 OF THE DUMP (.gsa) THAT YtmndofgagngcgaaProg.lean LOADS. Nothing in Lean hashes anything: it is a label: what it is worth is what the hold of that sum in a sandbox is worth. -/
noncomputable def Try.pinned : Pinned := { name := "ytmndofgagngcgaa", sum := "d30d1857377ab71908ec3c36e05af17de6c81149c8ab11c0e824621c71e9a3b0", checked := Try.checked }
namespace Rows
def none {H : Type} : Left H := { results := [], args := [] }

/-- 'recensionlaw10.EditMakes': WHATEVER THE INPUT: true; the input reads as it did. -/
def editMakesSpec : ChangeSpec := { name := "editMakes", fn := fun _ => fun
  | [d1, d2] => { results := [.lit (.bool true)], args := [d1, d2] }
  | _ => none }
def editMakesRow : OpenClaim := { program := "ytmndofgagngcgaa", sum := "d30d1857377ab71908ec3c36e05af17de6c81149c8ab11c0e824621c71e9a3b0", func := "recension/recensionlaw10.EditMakes", spec := "editMakes", inPlace := ["slices.overlaps[*recension/fugue.node]"], unfollowed := true, recurses := true, plainKeys := false, apart := false }
def EditMakesSaid : Prop := editMakesRow.holds Try.pinned (OpenSpec.ofChange editMakesSpec)

/-- ITS FALSE NEIGHBOUR: 'it returns false'. Refute it at one input. -/
def editMakesWrong : ChangeSpec := { name := "editMakes", fn := fun _ => fun
  | [d1, d2] => { results := [.lit (.bool false)], args := [d1, d2] }
  | _ => none }
def EditMakesWrongFalsely : Prop := editMakesRow.holds Try.pinned (OpenSpec.ofChange editMakesWrong)

/-- 'recensionlaw10.EditBlames': WHATEVER THE INPUT: true; the input reads as it did. -/
def editBlamesSpec : ChangeSpec := { name := "editBlames", fn := fun _ => fun
  | [d] => { results := [.lit (.bool true)], args := [d] }
  | _ => none }
def editBlamesRow : OpenClaim := { program := "ytmndofgagngcgaa", sum := "d30d1857377ab71908ec3c36e05af17de6c81149c8ab11c0e824621c71e9a3b0", func := "recension/recensionlaw10.EditBlames", spec := "editBlames", inPlace := ["slices.overlaps[*recension/fugue.node]"], unfollowed := true, recurses := true, plainKeys := false, apart := false }
def EditBlamesSaid : Prop := editBlamesRow.holds Try.pinned (OpenSpec.ofChange editBlamesSpec)

/-- ITS FALSE NEIGHBOUR: 'it returns false'. Refute it at one input. -/
def editBlamesWrong : ChangeSpec := { name := "editBlames", fn := fun _ => fun
  | [d] => { results := [.lit (.bool false)], args := [d] }
  | _ => none }
def EditBlamesWrongFalsely : Prop := editBlamesRow.holds Try.pinned (OpenSpec.ofChange editBlamesWrong)

/-- 'recensionlaw10.EditNobody': WHATEVER THE INPUT: true; the input reads as it did. -/
def editNobodySpec : ChangeSpec := { name := "editNobody", fn := fun _ => fun
  | [d] => { results := [.lit (.bool true)], args := [d] }
  | _ => none }
def editNobodyRow : OpenClaim := { program := "ytmndofgagngcgaa", sum := "d30d1857377ab71908ec3c36e05af17de6c81149c8ab11c0e824621c71e9a3b0", func := "recension/recensionlaw10.EditNobody", spec := "editNobody", inPlace := ["slices.overlaps[*recension/fugue.node]"], unfollowed := true, recurses := true, plainKeys := false, apart := false }
def EditNobodySaid : Prop := editNobodyRow.holds Try.pinned (OpenSpec.ofChange editNobodySpec)

/-- ITS FALSE NEIGHBOUR: 'it returns false'. Refute it at one input. -/
def editNobodyWrong : ChangeSpec := { name := "editNobody", fn := fun _ => fun
  | [d] => { results := [.lit (.bool false)], args := [d] }
  | _ => none }
def EditNobodyWrongFalsely : Prop := editNobodyRow.holds Try.pinned (OpenSpec.ofChange editNobodyWrong)

/-- 'recensionlaw10.EditLands': WHATEVER THE INPUT: true; the input reads as it did. -/
def editLandsSpec : ChangeSpec := { name := "editLands", fn := fun _ => fun
  | [d1, d2, d3] => { results := [.lit (.bool true)], args := [d1, d2, d3] }
  | _ => none }
def editLandsRow : OpenClaim := { program := "ytmndofgagngcgaa", sum := "d30d1857377ab71908ec3c36e05af17de6c81149c8ab11c0e824621c71e9a3b0", func := "recension/recensionlaw10.EditLands", spec := "editLands", inPlace := ["slices.overlaps[*recension/fugue.node]"], unfollowed := true, recurses := true, plainKeys := false, apart := false }
def EditLandsSaid : Prop := editLandsRow.holds Try.pinned (OpenSpec.ofChange editLandsSpec)

/-- ITS FALSE NEIGHBOUR: 'it returns false'. Refute it at one input. -/
def editLandsWrong : ChangeSpec := { name := "editLands", fn := fun _ => fun
  | [d1, d2, d3] => { results := [.lit (.bool false)], args := [d1, d2, d3] }
  | _ => none }
def EditLandsWrongFalsely : Prop := editLandsRow.holds Try.pinned (OpenSpec.ofChange editLandsWrong)

/-- 'recensionlaw10.EditKeeps': WHATEVER THE INPUT: true; the input reads as it did. -/
def editKeepsSpec : ChangeSpec := { name := "editKeeps", fn := fun _ => fun
  | [d1, d2, d3] => { results := [.lit (.bool true)], args := [d1, d2, d3] }
  | _ => none }
def editKeepsRow : OpenClaim := { program := "ytmndofgagngcgaa", sum := "d30d1857377ab71908ec3c36e05af17de6c81149c8ab11c0e824621c71e9a3b0", func := "recension/recensionlaw10.EditKeeps", spec := "editKeeps", inPlace := ["slices.overlaps[*recension/fugue.node]"], unfollowed := true, recurses := true, plainKeys := false, apart := false }
def EditKeepsSaid : Prop := editKeepsRow.holds Try.pinned (OpenSpec.ofChange editKeepsSpec)

/-- ITS FALSE NEIGHBOUR: 'it returns false'. Refute it at one input. -/
def editKeepsWrong : ChangeSpec := { name := "editKeeps", fn := fun _ => fun
  | [d1, d2, d3] => { results := [.lit (.bool false)], args := [d1, d2, d3] }
  | _ => none }
def EditKeepsWrongFalsely : Prop := editKeepsRow.holds Try.pinned (OpenSpec.ofChange editKeepsWrong)

/-- 'recensionlaw10.EditWhole': WHATEVER THE INPUT: true; the input reads as it did. -/
def editWholeSpec : ChangeSpec := { name := "editWhole", fn := fun _ => fun
  | [d] => { results := [.lit (.bool true)], args := [d] }
  | _ => none }
def editWholeRow : OpenClaim := { program := "ytmndofgagngcgaa", sum := "d30d1857377ab71908ec3c36e05af17de6c81149c8ab11c0e824621c71e9a3b0", func := "recension/recensionlaw10.EditWhole", spec := "editWhole", inPlace := ["slices.overlaps[*recension/fugue.node]"], unfollowed := true, recurses := true, plainKeys := false, apart := false }
def EditWholeSaid : Prop := editWholeRow.holds Try.pinned (OpenSpec.ofChange editWholeSpec)

/-- ITS FALSE NEIGHBOUR: 'it returns false'. Refute it at one input. -/
def editWholeWrong : ChangeSpec := { name := "editWhole", fn := fun _ => fun
  | [d] => { results := [.lit (.bool false)], args := [d] }
  | _ => none }
def EditWholeWrongFalsely : Prop := editWholeRow.holds Try.pinned (OpenSpec.ofChange editWholeWrong)

/-- 'recensionlaw10.EditFew': WHATEVER THE INPUT: true; the input reads as it did. -/
def editFewSpec : ChangeSpec := { name := "editFew", fn := fun _ => fun
  | [d1, d2] => { results := [.lit (.bool true)], args := [d1, d2] }
  | _ => none }
def editFewRow : OpenClaim := { program := "ytmndofgagngcgaa", sum := "d30d1857377ab71908ec3c36e05af17de6c81149c8ab11c0e824621c71e9a3b0", func := "recension/recensionlaw10.EditFew", spec := "editFew", inPlace := ["slices.overlaps[*recension/fugue.node]"], unfollowed := true, recurses := true, plainKeys := false, apart := false }
def EditFewSaid : Prop := editFewRow.holds Try.pinned (OpenSpec.ofChange editFewSpec)

/-- ITS FALSE NEIGHBOUR: 'it returns false'. Refute it at one input. -/
def editFewWrong : ChangeSpec := { name := "editFew", fn := fun _ => fun
  | [d1, d2] => { results := [.lit (.bool false)], args := [d1, d2] }
  | _ => none }
def EditFewWrongFalsely : Prop := editFewRow.holds Try.pinned (OpenSpec.ofChange editFewWrong)

/- THE SECOND FORM. 'bulk': how many values and letters a reading holds, each counted each time it is reached (what is shared counts as often as it is met; a slice's spare places count too). A statement '..UptoSaid' is the law's where the arguments, and the package variables that the reading takes, are together of bulk at most 1048576: NARROWER than '..Said'. Prove '..Said' where nothing that the law and all that it calls make is longer than what came in: it says more and counts as full. Else prove '..UptoSaid'. A law counts once. -/
mutual
def uptoBulk {H : Type} : DataW H → Nat
  | .lit (.string bytes) => bytes.length + 1
  | .lit _ => 1
  | .nil => 1
  | .ptr d => uptoBulk d + 1
  | .slice elems spare => uptoBulkAll elems + uptoBulkAll spare + 1
  | .agg parts => uptoBulkAll parts + 1
  | .iface _ d => uptoBulk d + 1
  | .map entries => uptoBulkEntries entries + 1
  | .held _ => 1
def uptoBulkAll {H : Type} : List (DataW H) → Nat
  | [] => 0
  | d :: r => uptoBulk d + uptoBulkAll r
def uptoBulkEntries {H : Type} : List (Lit × DataW H) → Nat
  | [] => 0
  | x :: r => uptoBulkEntry x + uptoBulkEntries r
def uptoBulkEntry {H : Type} : Lit × DataW H → Nat
  | (.string bytes, d) => bytes.length + uptoBulk d + 1
  | (_, d) => uptoBulk d + 1
 end
def uptoSmall : (H : Type) → List (DataW H) → Bool := fun _ ds => decide (uptoBulkAll ds ≤ 1048576)
def OpenSpec.upto (s : _root_.Go.ChangeSpec) : _root_.Go.OpenSpec := { _root_.Go.OpenSpec.ofChange s with cond := some uptoSmall }

/-- 'recensionlaw10.EditMakes', WHERE WHAT IT READS IS OF BULK AT MOST 1048576: true; the input reads as it did. -/
def editMakesUptoRow : OpenClaim := { program := "ytmndofgagngcgaa", sum := "d30d1857377ab71908ec3c36e05af17de6c81149c8ab11c0e824621c71e9a3b0", func := "recension/recensionlaw10.EditMakes", spec := "editMakes", inPlace := ["slices.overlaps[*recension/fugue.node]"], unfollowed := true, recurses := true, plainKeys := false, apart := false, narrowed := true }
def EditMakesUptoSaid : Prop := editMakesUptoRow.holds Try.pinned (OpenSpec.upto editMakesSpec)

/-- 'recensionlaw10.EditBlames', WHERE WHAT IT READS IS OF BULK AT MOST 1048576: true; the input reads as it did. -/
def editBlamesUptoRow : OpenClaim := { program := "ytmndofgagngcgaa", sum := "d30d1857377ab71908ec3c36e05af17de6c81149c8ab11c0e824621c71e9a3b0", func := "recension/recensionlaw10.EditBlames", spec := "editBlames", inPlace := ["slices.overlaps[*recension/fugue.node]"], unfollowed := true, recurses := true, plainKeys := false, apart := false, narrowed := true }
def EditBlamesUptoSaid : Prop := editBlamesUptoRow.holds Try.pinned (OpenSpec.upto editBlamesSpec)

/-- 'recensionlaw10.EditNobody', WHERE WHAT IT READS IS OF BULK AT MOST 1048576: true; the input reads as it did. -/
def editNobodyUptoRow : OpenClaim := { program := "ytmndofgagngcgaa", sum := "d30d1857377ab71908ec3c36e05af17de6c81149c8ab11c0e824621c71e9a3b0", func := "recension/recensionlaw10.EditNobody", spec := "editNobody", inPlace := ["slices.overlaps[*recension/fugue.node]"], unfollowed := true, recurses := true, plainKeys := false, apart := false, narrowed := true }
def EditNobodyUptoSaid : Prop := editNobodyUptoRow.holds Try.pinned (OpenSpec.upto editNobodySpec)

/-- 'recensionlaw10.EditLands', WHERE WHAT IT READS IS OF BULK AT MOST 1048576: true; the input reads as it did. -/
def editLandsUptoRow : OpenClaim := { program := "ytmndofgagngcgaa", sum := "d30d1857377ab71908ec3c36e05af17de6c81149c8ab11c0e824621c71e9a3b0", func := "recension/recensionlaw10.EditLands", spec := "editLands", inPlace := ["slices.overlaps[*recension/fugue.node]"], unfollowed := true, recurses := true, plainKeys := false, apart := false, narrowed := true }
def EditLandsUptoSaid : Prop := editLandsUptoRow.holds Try.pinned (OpenSpec.upto editLandsSpec)

/-- 'recensionlaw10.EditKeeps', WHERE WHAT IT READS IS OF BULK AT MOST 1048576: true; the input reads as it did. -/
def editKeepsUptoRow : OpenClaim := { program := "ytmndofgagngcgaa", sum := "d30d1857377ab71908ec3c36e05af17de6c81149c8ab11c0e824621c71e9a3b0", func := "recension/recensionlaw10.EditKeeps", spec := "editKeeps", inPlace := ["slices.overlaps[*recension/fugue.node]"], unfollowed := true, recurses := true, plainKeys := false, apart := false, narrowed := true }
def EditKeepsUptoSaid : Prop := editKeepsUptoRow.holds Try.pinned (OpenSpec.upto editKeepsSpec)

/-- 'recensionlaw10.EditWhole', WHERE WHAT IT READS IS OF BULK AT MOST 1048576: true; the input reads as it did. -/
def editWholeUptoRow : OpenClaim := { program := "ytmndofgagngcgaa", sum := "d30d1857377ab71908ec3c36e05af17de6c81149c8ab11c0e824621c71e9a3b0", func := "recension/recensionlaw10.EditWhole", spec := "editWhole", inPlace := ["slices.overlaps[*recension/fugue.node]"], unfollowed := true, recurses := true, plainKeys := false, apart := false, narrowed := true }
def EditWholeUptoSaid : Prop := editWholeUptoRow.holds Try.pinned (OpenSpec.upto editWholeSpec)

/-- 'recensionlaw10.EditFew', WHERE WHAT IT READS IS OF BULK AT MOST 1048576: true; the input reads as it did. -/
def editFewUptoRow : OpenClaim := { program := "ytmndofgagngcgaa", sum := "d30d1857377ab71908ec3c36e05af17de6c81149c8ab11c0e824621c71e9a3b0", func := "recension/recensionlaw10.EditFew", spec := "editFew", inPlace := ["slices.overlaps[*recension/fugue.node]"], unfollowed := true, recurses := true, plainKeys := false, apart := false, narrowed := true }
def EditFewUptoSaid : Prop := editFewUptoRow.holds Try.pinned (OpenSpec.upto editFewSpec)

end Rows
end Go.Proofs.Ytmndofgagngcgaa
