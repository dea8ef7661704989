/-
  DERIVED. GIVEN WITH THE SEED: THE CARDS: each row of YtfanmpbapabboaaGreatDoorRows.lean that lists a variable, with what it lists TIED to the program's text (the seventh form; the later family's looks); each row that meets fmt, with fmt's text TOLD by the authors' own Lean function (tested against real Go, not proved from fmt's source: count such statements apart). THE CARD IS WHAT COUNTS. Prove the row's statement (the work); the ties are given (YtfanmpbapabboaaGreatDoorTie.lean); close each card by the builder's one call (the guide's Derived/Test/ToyasCard.lean, 'card_holds'). Laid BY PROGRAM, IN A SANDBOX (cutbox-door.mjs). By AI agents, Wed Nov 11 2026. No macro, syntax, notation, axiom, sorry.
-/
import Derived.Test.YtfanmpbapabboaaGreatDoorRows
import GoSem.ClaimSeven
namespace Go.Proofs.YtfanmpbapabboaaGreatDoor
namespace Rows

/-- THE TIED CARD OF 'recensionlaw12.PackReaches'. -/
def packReachesCard : Claim7 := { stood := { row := packReachesRow, standIns := [], harness := (true, "f43c2e02da905335ee4a6014f0470fb17315b60c0173394fa8b9c986fb140d85"), looks := true }, kinds := [], alts := [], laidByText := true, laidKinds := [.data], laidTests := true, laidLooks := .later }
def PackReachesCardSaid : Prop := Claim7.holds Tryz.pinned (.plain (OpenSpec.ofChange packReachesSpec)) packReachesCard

/-- THE SECOND FORM's CARD OF 'recensionlaw12.PackReaches'. -/
def packReachesUptoCard : Claim7 := { stood := { row := packReachesUptoRow, standIns := [], harness := (true, "f43c2e02da905335ee4a6014f0470fb17315b60c0173394fa8b9c986fb140d85"), looks := true }, kinds := [], alts := [], laidByText := true, laidKinds := [.data], laidTests := true, laidLooks := .later }
def PackReachesUptoCardSaid : Prop := Claim7.holds Tryz.pinned (.plain (OpenSpec.upto packReachesSpec)) packReachesUptoCard
end Rows
end Go.Proofs.YtfanmpbapabboaaGreatDoor
