/-
  No cell of these rows narrows 'for every input' (looked for: loops, veiled, ifaces, maps, wideKeys, modest, calm, conditions, laid).
  DERIVED. THE GIVEN ROWS OF THIS SEAT. 11 by the template 'for every input the law returns true; each argument reads behind the call as it read before'; 0 by the template 'total and deterministic' (their statements: YtecolkngbcgmcaaTotals.lean).
  GIVEN WITH THE SEED: the statements are not yours to turn. If you find one false, say at which input.
  Laid BY PROGRAM, IN A SANDBOX (cutbox-rows.mjs): the forced cells as the released guide's own fill.sh prints them over the translation 6c9d45ed669721dc… (all of the seat's roots in one cut). By AI agents, Wed Nov 11 2026. No macro, syntax, notation, axiom, sorry.
-/
import Derived.Test.YtecolkngbcgmcaaChecked
import GoSem.Claim
import GoSem.ClaimJoined
import GoSem.ClaimMapViews
import Derived.JoinedTies
import Derived.KernelRfl
namespace Go.Proofs.Ytecolkngbcgmcaa
/- THE CELL 'sum', in the pinned program and in every row, IS THE sha256 OF THE DUMP (.gsa) THAT YtecolkngbcgmcaaProg.lean LOADS. Nothing in Lean hashes anything: it is a label: what it is worth is what the hold of that sum in a sandbox is worth. -/
noncomputable def Try.pinned : Pinned := { name := "ytecolkngbcgmcaa", sum := "6c9d45ed669721dcae29c1a9fdc70d5da6c47b5593d5a6f3626f92b4f76ba9de", checked := Try.checked }
namespace Rows
def none {H : Type} : Left H := { results := [], args := [] }

/-- 'recensionlaw07.GraphTops': WHATEVER THE INPUT: true; the input reads as it did. -/
def graphTopsSpec : ChangeSpec := { name := "graphTops", fn := fun _ => fun
  | [d1, d2] => { results := [.lit (.bool true)], args := [d1, d2] }
  | _ => none }
def graphTopsRow : OpenClaim := { program := "ytecolkngbcgmcaa", sum := "6c9d45ed669721dcae29c1a9fdc70d5da6c47b5593d5a6f3626f92b4f76ba9de", func := "recension/recensionlaw07.GraphTops", spec := "graphTops", unfollowed := true, recurses := true, plainKeys := false, apart := false }
def GraphTopsSaid : Prop := graphTopsRow.holds Try.pinned (OpenSpec.ofChange graphTopsSpec)

/-- ITS FALSE NEIGHBOUR: 'it returns false'. Refute it at one input. -/
def graphTopsWrong : ChangeSpec := { name := "graphTops", fn := fun _ => fun
  | [d1, d2] => { results := [.lit (.bool false)], args := [d1, d2] }
  | _ => none }
def GraphTopsWrongFalsely : Prop := graphTopsRow.holds Try.pinned (OpenSpec.ofChange graphTopsWrong)

/-- 'recensionlaw07.GraphLattice': WHATEVER THE INPUT: true; the input reads as it did. -/
def graphLatticeSpec : ChangeSpec := { name := "graphLattice", fn := fun _ => fun
  | [d1, d2] => { results := [.lit (.bool true)], args := [d1, d2] }
  | _ => none }
def graphLatticeRow : OpenClaim := { program := "ytecolkngbcgmcaa", sum := "6c9d45ed669721dcae29c1a9fdc70d5da6c47b5593d5a6f3626f92b4f76ba9de", func := "recension/recensionlaw07.GraphLattice", spec := "graphLattice", unfollowed := true, recurses := true, plainKeys := false, apart := false }
def GraphLatticeSaid : Prop := graphLatticeRow.holds Try.pinned (OpenSpec.ofChange graphLatticeSpec)

/-- ITS FALSE NEIGHBOUR: 'it returns false'. Refute it at one input. -/
def graphLatticeWrong : ChangeSpec := { name := "graphLattice", fn := fun _ => fun
  | [d1, d2] => { results := [.lit (.bool false)], args := [d1, d2] }
  | _ => none }
def GraphLatticeWrongFalsely : Prop := graphLatticeRow.holds Try.pinned (OpenSpec.ofChange graphLatticeWrong)

/-- 'recensionlaw07.GraphChecks': WHATEVER THE INPUT: true; the input reads as it did. -/
def graphChecksSpec : ChangeSpec := { name := "graphChecks", fn := fun _ => fun
  | [d] => { results := [.lit (.bool true)], args := [d] }
  | _ => none }
def graphChecksRow : OpenClaim := { program := "ytecolkngbcgmcaa", sum := "6c9d45ed669721dcae29c1a9fdc70d5da6c47b5593d5a6f3626f92b4f76ba9de", func := "recension/recensionlaw07.GraphChecks", spec := "graphChecks", unfollowed := true, recurses := true, plainKeys := false, apart := false }
def GraphChecksSaid : Prop := graphChecksRow.holds Try.pinned (OpenSpec.ofChange graphChecksSpec)

/-- ITS FALSE NEIGHBOUR: 'it returns false'. Refute it at one input. -/
def graphChecksWrong : ChangeSpec := { name := "graphChecks", fn := fun _ => fun
  | [d] => { results := [.lit (.bool false)], args := [d] }
  | _ => none }
def GraphChecksWrongFalsely : Prop := graphChecksRow.holds Try.pinned (OpenSpec.ofChange graphChecksWrong)

/-- 'recensionlaw07.GraphOrders': WHATEVER THE INPUT: true; the input reads as it did. -/
def graphOrdersSpec : ChangeSpec := { name := "graphOrders", fn := fun _ => fun
  | [d1, d2, d3] => { results := [.lit (.bool true)], args := [d1, d2, d3] }
  | _ => none }
def graphOrdersRow : OpenClaim := { program := "ytecolkngbcgmcaa", sum := "6c9d45ed669721dcae29c1a9fdc70d5da6c47b5593d5a6f3626f92b4f76ba9de", func := "recension/recensionlaw07.GraphOrders", spec := "graphOrders", unfollowed := true, recurses := true, plainKeys := false, apart := false }
def GraphOrdersSaid : Prop := graphOrdersRow.holds Try.pinned (OpenSpec.ofChange graphOrdersSpec)

/-- ITS FALSE NEIGHBOUR: 'it returns false'. Refute it at one input. -/
def graphOrdersWrong : ChangeSpec := { name := "graphOrders", fn := fun _ => fun
  | [d1, d2, d3] => { results := [.lit (.bool false)], args := [d1, d2, d3] }
  | _ => none }
def GraphOrdersWrongFalsely : Prop := graphOrdersRow.holds Try.pinned (OpenSpec.ofChange graphOrdersWrong)

/-- 'recensionlaw07.GraphRises': WHATEVER THE INPUT: true; the input reads as it did. -/
def graphRisesSpec : ChangeSpec := { name := "graphRises", fn := fun _ => fun
  | [d1, d2, d3] => { results := [.lit (.bool true)], args := [d1, d2, d3] }
  | _ => none }
def graphRisesRow : OpenClaim := { program := "ytecolkngbcgmcaa", sum := "6c9d45ed669721dcae29c1a9fdc70d5da6c47b5593d5a6f3626f92b4f76ba9de", func := "recension/recensionlaw07.GraphRises", spec := "graphRises", unfollowed := true, recurses := true, plainKeys := false, apart := false }
def GraphRisesSaid : Prop := graphRisesRow.holds Try.pinned (OpenSpec.ofChange graphRisesSpec)

/-- ITS FALSE NEIGHBOUR: 'it returns false'. Refute it at one input. -/
def graphRisesWrong : ChangeSpec := { name := "graphRises", fn := fun _ => fun
  | [d1, d2, d3] => { results := [.lit (.bool false)], args := [d1, d2, d3] }
  | _ => none }
def GraphRisesWrongFalsely : Prop := graphRisesRow.holds Try.pinned (OpenSpec.ofChange graphRisesWrong)

/-- 'recensionlaw07.GraphCommons': WHATEVER THE INPUT: true; the input reads as it did. -/
def graphCommonsSpec : ChangeSpec := { name := "graphCommons", fn := fun _ => fun
  | [d1, d2, d3] => { results := [.lit (.bool true)], args := [d1, d2, d3] }
  | _ => none }
def graphCommonsRow : OpenClaim := { program := "ytecolkngbcgmcaa", sum := "6c9d45ed669721dcae29c1a9fdc70d5da6c47b5593d5a6f3626f92b4f76ba9de", func := "recension/recensionlaw07.GraphCommons", spec := "graphCommons", unfollowed := true, recurses := true, plainKeys := false, apart := false }
def GraphCommonsSaid : Prop := graphCommonsRow.holds Try.pinned (OpenSpec.ofChange graphCommonsSpec)

/-- ITS FALSE NEIGHBOUR: 'it returns false'. Refute it at one input. -/
def graphCommonsWrong : ChangeSpec := { name := "graphCommons", fn := fun _ => fun
  | [d1, d2, d3] => { results := [.lit (.bool false)], args := [d1, d2, d3] }
  | _ => none }
def GraphCommonsWrongFalsely : Prop := graphCommonsRow.holds Try.pinned (OpenSpec.ofChange graphCommonsWrong)

/-- 'recensionlaw07.GraphPartial': WHATEVER THE INPUT: true; the input reads as it did. -/
def graphPartialSpec : ChangeSpec := { name := "graphPartial", fn := fun _ => fun
  | [d1, d2] => { results := [.lit (.bool true)], args := [d1, d2] }
  | _ => none }
def graphPartialRow : OpenClaim := { program := "ytecolkngbcgmcaa", sum := "6c9d45ed669721dcae29c1a9fdc70d5da6c47b5593d5a6f3626f92b4f76ba9de", func := "recension/recensionlaw07.GraphPartial", spec := "graphPartial", unfollowed := true, recurses := true, plainKeys := false, apart := false }
def GraphPartialSaid : Prop := graphPartialRow.holds Try.pinned (OpenSpec.ofChange graphPartialSpec)

/-- ITS FALSE NEIGHBOUR: 'it returns false'. Refute it at one input. -/
def graphPartialWrong : ChangeSpec := { name := "graphPartial", fn := fun _ => fun
  | [d1, d2] => { results := [.lit (.bool false)], args := [d1, d2] }
  | _ => none }
def GraphPartialWrongFalsely : Prop := graphPartialRow.holds Try.pinned (OpenSpec.ofChange graphPartialWrong)

/-- 'recensionlaw07.GraphMeets': WHATEVER THE INPUT: true; the input reads as it did. -/
def graphMeetsSpec : ChangeSpec := { name := "graphMeets", fn := fun _ => fun
  | [d1, d2] => { results := [.lit (.bool true)], args := [d1, d2] }
  | _ => none }
def graphMeetsRow : OpenClaim := { program := "ytecolkngbcgmcaa", sum := "6c9d45ed669721dcae29c1a9fdc70d5da6c47b5593d5a6f3626f92b4f76ba9de", func := "recension/recensionlaw07.GraphMeets", spec := "graphMeets", unfollowed := true, recurses := true, plainKeys := false, apart := false }
def GraphMeetsSaid : Prop := graphMeetsRow.holds Try.pinned (OpenSpec.ofChange graphMeetsSpec)

/-- ITS FALSE NEIGHBOUR: 'it returns false'. Refute it at one input. -/
def graphMeetsWrong : ChangeSpec := { name := "graphMeets", fn := fun _ => fun
  | [d1, d2] => { results := [.lit (.bool false)], args := [d1, d2] }
  | _ => none }
def GraphMeetsWrongFalsely : Prop := graphMeetsRow.holds Try.pinned (OpenSpec.ofChange graphMeetsWrong)

/-- 'recensionlaw07.GraphAnyOrder': WHATEVER THE INPUT: true; the input reads as it did. -/
def graphAnyOrderSpec : ChangeSpec := { name := "graphAnyOrder", fn := fun _ => fun
  | [d1, d2, d3] => { results := [.lit (.bool true)], args := [d1, d2, d3] }
  | _ => none }
def graphAnyOrderRow : OpenClaim := { program := "ytecolkngbcgmcaa", sum := "6c9d45ed669721dcae29c1a9fdc70d5da6c47b5593d5a6f3626f92b4f76ba9de", func := "recension/recensionlaw07.GraphAnyOrder", spec := "graphAnyOrder", unfollowed := true, recurses := true, plainKeys := false, apart := false }
def GraphAnyOrderSaid : Prop := graphAnyOrderRow.holds Try.pinned (OpenSpec.ofChange graphAnyOrderSpec)

/-- ITS FALSE NEIGHBOUR: 'it returns false'. Refute it at one input. -/
def graphAnyOrderWrong : ChangeSpec := { name := "graphAnyOrder", fn := fun _ => fun
  | [d1, d2, d3] => { results := [.lit (.bool false)], args := [d1, d2, d3] }
  | _ => none }
def GraphAnyOrderWrongFalsely : Prop := graphAnyOrderRow.holds Try.pinned (OpenSpec.ofChange graphAnyOrderWrong)

/-- 'recensionlaw07.GraphMore': WHATEVER THE INPUT: true; the input reads as it did. -/
def graphMoreSpec : ChangeSpec := { name := "graphMore", fn := fun _ => fun
  | [d1, d2, d3] => { results := [.lit (.bool true)], args := [d1, d2, d3] }
  | _ => none }
def graphMoreRow : OpenClaim := { program := "ytecolkngbcgmcaa", sum := "6c9d45ed669721dcae29c1a9fdc70d5da6c47b5593d5a6f3626f92b4f76ba9de", func := "recension/recensionlaw07.GraphMore", spec := "graphMore", unfollowed := true, recurses := true, plainKeys := false, apart := false }
def GraphMoreSaid : Prop := graphMoreRow.holds Try.pinned (OpenSpec.ofChange graphMoreSpec)

/-- ITS FALSE NEIGHBOUR: 'it returns false'. Refute it at one input. -/
def graphMoreWrong : ChangeSpec := { name := "graphMore", fn := fun _ => fun
  | [d1, d2, d3] => { results := [.lit (.bool false)], args := [d1, d2, d3] }
  | _ => none }
def GraphMoreWrongFalsely : Prop := graphMoreRow.holds Try.pinned (OpenSpec.ofChange graphMoreWrong)

/-- 'recensionlaw07.GraphReaches': WHATEVER THE INPUT: true; the input reads as it did. -/
def graphReachesSpec : ChangeSpec := { name := "graphReaches", fn := fun _ => fun
  | [d1, d2] => { results := [.lit (.bool true)], args := [d1, d2] }
  | _ => none }
def graphReachesRow : OpenClaim := { program := "ytecolkngbcgmcaa", sum := "6c9d45ed669721dcae29c1a9fdc70d5da6c47b5593d5a6f3626f92b4f76ba9de", func := "recension/recensionlaw07.GraphReaches", spec := "graphReaches", unfollowed := true, recurses := true, plainKeys := false, apart := false }
def GraphReachesSaid : Prop := graphReachesRow.holds Try.pinned (OpenSpec.ofChange graphReachesSpec)

/-- ITS FALSE NEIGHBOUR: 'it returns false'. Refute it at one input. -/
def graphReachesWrong : ChangeSpec := { name := "graphReaches", fn := fun _ => fun
  | [d1, d2] => { results := [.lit (.bool false)], args := [d1, d2] }
  | _ => none }
def GraphReachesWrongFalsely : Prop := graphReachesRow.holds Try.pinned (OpenSpec.ofChange graphReachesWrong)

/- THE SECOND FORM. 'bulk': how many values and letters a reading holds, each counted each time it is reached (what is shared counts as often as it is met; a slice's spare places count too). A statement '..UptoSaid' is the law's where the arguments, and the package variables that the reading takes, are together of bulk at most 1048576: NARROWER than '..Said'. Prove '..Said' where nothing that the law and all that it calls make is longer than what came in: it says more and counts as full. Else prove '..UptoSaid'. A law counts once. -/
mutual
def uptoBulk {H : Type} : DataW H → Nat
  | .lit (.string bytes) => bytes.length + 1
  | .lit _ => 1
  | .nil => 1
  | .ptr d => uptoBulk d + 1
  | .slice elems spare => uptoBulkAll elems + uptoBulkAll spare + 1
  | .agg parts => uptoBulkAll parts + 1
  | .iface _ d => uptoBulk d + 1
  | .map entries => uptoBulkEntries entries + 1
  | .held _ => 1
def uptoBulkAll {H : Type} : List (DataW H) → Nat
  | [] => 0
  | d :: r => uptoBulk d + uptoBulkAll r
def uptoBulkEntries {H : Type} : List (Lit × DataW H) → Nat
  | [] => 0
  | x :: r => uptoBulkEntry x + uptoBulkEntries r
def uptoBulkEntry {H : Type} : Lit × DataW H → Nat
  | (.string bytes, d) => bytes.length + uptoBulk d + 1
  | (_, d) => uptoBulk d + 1
 end
def uptoSmall : (H : Type) → List (DataW H) → Bool := fun _ ds => decide (uptoBulkAll ds ≤ 1048576)
def OpenSpec.upto (s : _root_.Go.ChangeSpec) : _root_.Go.OpenSpec := { _root_.Go.OpenSpec.ofChange s with cond := some uptoSmall }

/-- 'recensionlaw07.GraphTops', WHERE WHAT IT READS IS OF BULK AT MOST 1048576: true; the input reads as it did. -/
def graphTopsUptoRow : OpenClaim := { program := "ytecolkngbcgmcaa", sum := "6c9d45ed669721dcae29c1a9fdc70d5da6c47b5593d5a6f3626f92b4f76ba9de", func := "recension/recensionlaw07.GraphTops", spec := "graphTops", unfollowed := true, recurses := true, plainKeys := false, apart := false, narrowed := true }
def GraphTopsUptoSaid : Prop := graphTopsUptoRow.holds Try.pinned (OpenSpec.upto graphTopsSpec)

/-- 'recensionlaw07.GraphLattice', WHERE WHAT IT READS IS OF BULK AT MOST 1048576: true; the input reads as it did. -/
def graphLatticeUptoRow : OpenClaim := { program := "ytecolkngbcgmcaa", sum := "6c9d45ed669721dcae29c1a9fdc70d5da6c47b5593d5a6f3626f92b4f76ba9de", func := "recension/recensionlaw07.GraphLattice", spec := "graphLattice", unfollowed := true, recurses := true, plainKeys := false, apart := false, narrowed := true }
def GraphLatticeUptoSaid : Prop := graphLatticeUptoRow.holds Try.pinned (OpenSpec.upto graphLatticeSpec)

/-- 'recensionlaw07.GraphChecks', WHERE WHAT IT READS IS OF BULK AT MOST 1048576: true; the input reads as it did. -/
def graphChecksUptoRow : OpenClaim := { program := "ytecolkngbcgmcaa", sum := "6c9d45ed669721dcae29c1a9fdc70d5da6c47b5593d5a6f3626f92b4f76ba9de", func := "recension/recensionlaw07.GraphChecks", spec := "graphChecks", unfollowed := true, recurses := true, plainKeys := false, apart := false, narrowed := true }
def GraphChecksUptoSaid : Prop := graphChecksUptoRow.holds Try.pinned (OpenSpec.upto graphChecksSpec)

/-- 'recensionlaw07.GraphOrders', WHERE WHAT IT READS IS OF BULK AT MOST 1048576: true; the input reads as it did. -/
def graphOrdersUptoRow : OpenClaim := { program := "ytecolkngbcgmcaa", sum := "6c9d45ed669721dcae29c1a9fdc70d5da6c47b5593d5a6f3626f92b4f76ba9de", func := "recension/recensionlaw07.GraphOrders", spec := "graphOrders", unfollowed := true, recurses := true, plainKeys := false, apart := false, narrowed := true }
def GraphOrdersUptoSaid : Prop := graphOrdersUptoRow.holds Try.pinned (OpenSpec.upto graphOrdersSpec)

/-- 'recensionlaw07.GraphRises', WHERE WHAT IT READS IS OF BULK AT MOST 1048576: true; the input reads as it did. -/
def graphRisesUptoRow : OpenClaim := { program := "ytecolkngbcgmcaa", sum := "6c9d45ed669721dcae29c1a9fdc70d5da6c47b5593d5a6f3626f92b4f76ba9de", func := "recension/recensionlaw07.GraphRises", spec := "graphRises", unfollowed := true, recurses := true, plainKeys := false, apart := false, narrowed := true }
def GraphRisesUptoSaid : Prop := graphRisesUptoRow.holds Try.pinned (OpenSpec.upto graphRisesSpec)

/-- 'recensionlaw07.GraphCommons', WHERE WHAT IT READS IS OF BULK AT MOST 1048576: true; the input reads as it did. -/
def graphCommonsUptoRow : OpenClaim := { program := "ytecolkngbcgmcaa", sum := "6c9d45ed669721dcae29c1a9fdc70d5da6c47b5593d5a6f3626f92b4f76ba9de", func := "recension/recensionlaw07.GraphCommons", spec := "graphCommons", unfollowed := true, recurses := true, plainKeys := false, apart := false, narrowed := true }
def GraphCommonsUptoSaid : Prop := graphCommonsUptoRow.holds Try.pinned (OpenSpec.upto graphCommonsSpec)

/-- 'recensionlaw07.GraphPartial', WHERE WHAT IT READS IS OF BULK AT MOST 1048576: true; the input reads as it did. -/
def graphPartialUptoRow : OpenClaim := { program := "ytecolkngbcgmcaa", sum := "6c9d45ed669721dcae29c1a9fdc70d5da6c47b5593d5a6f3626f92b4f76ba9de", func := "recension/recensionlaw07.GraphPartial", spec := "graphPartial", unfollowed := true, recurses := true, plainKeys := false, apart := false, narrowed := true }
def GraphPartialUptoSaid : Prop := graphPartialUptoRow.holds Try.pinned (OpenSpec.upto graphPartialSpec)

/-- 'recensionlaw07.GraphMeets', WHERE WHAT IT READS IS OF BULK AT MOST 1048576: true; the input reads as it did. -/
def graphMeetsUptoRow : OpenClaim := { program := "ytecolkngbcgmcaa", sum := "6c9d45ed669721dcae29c1a9fdc70d5da6c47b5593d5a6f3626f92b4f76ba9de", func := "recension/recensionlaw07.GraphMeets", spec := "graphMeets", unfollowed := true, recurses := true, plainKeys := false, apart := false, narrowed := true }
def GraphMeetsUptoSaid : Prop := graphMeetsUptoRow.holds Try.pinned (OpenSpec.upto graphMeetsSpec)

/-- 'recensionlaw07.GraphAnyOrder', WHERE WHAT IT READS IS OF BULK AT MOST 1048576: true; the input reads as it did. -/
def graphAnyOrderUptoRow : OpenClaim := { program := "ytecolkngbcgmcaa", sum := "6c9d45ed669721dcae29c1a9fdc70d5da6c47b5593d5a6f3626f92b4f76ba9de", func := "recension/recensionlaw07.GraphAnyOrder", spec := "graphAnyOrder", unfollowed := true, recurses := true, plainKeys := false, apart := false, narrowed := true }
def GraphAnyOrderUptoSaid : Prop := graphAnyOrderUptoRow.holds Try.pinned (OpenSpec.upto graphAnyOrderSpec)

/-- 'recensionlaw07.GraphMore', WHERE WHAT IT READS IS OF BULK AT MOST 1048576: true; the input reads as it did. -/
def graphMoreUptoRow : OpenClaim := { program := "ytecolkngbcgmcaa", sum := "6c9d45ed669721dcae29c1a9fdc70d5da6c47b5593d5a6f3626f92b4f76ba9de", func := "recension/recensionlaw07.GraphMore", spec := "graphMore", unfollowed := true, recurses := true, plainKeys := false, apart := false, narrowed := true }
def GraphMoreUptoSaid : Prop := graphMoreUptoRow.holds Try.pinned (OpenSpec.upto graphMoreSpec)

/-- 'recensionlaw07.GraphReaches', WHERE WHAT IT READS IS OF BULK AT MOST 1048576: true; the input reads as it did. -/
def graphReachesUptoRow : OpenClaim := { program := "ytecolkngbcgmcaa", sum := "6c9d45ed669721dcae29c1a9fdc70d5da6c47b5593d5a6f3626f92b4f76ba9de", func := "recension/recensionlaw07.GraphReaches", spec := "graphReaches", unfollowed := true, recurses := true, plainKeys := false, apart := false, narrowed := true }
def GraphReachesUptoSaid : Prop := graphReachesUptoRow.holds Try.pinned (OpenSpec.upto graphReachesSpec)

end Rows
end Go.Proofs.Ytecolkngbcgmcaa
