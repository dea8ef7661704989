/-
  DERIVED. GIVEN WITH THE SEED: THE CARDS: each row of YtmehkigmnpjcjaaGreatDoorRows.lean that lists a variable, with what it lists TIED to the program's text (the seventh form; the later family's looks); each row that meets fmt, with fmt's text TOLD by the authors' own Lean function (tested against real Go, not proved from fmt's source: count such statements apart). THE CARD IS WHAT COUNTS. Prove the row's statement (the work); the ties are given (YtmehkigmnpjcjaaGreatDoorTie.lean); close each card by the builder's one call (the guide's Derived/Test/ToyasCard.lean, 'card_holds'). Laid BY PROGRAM, IN A SANDBOX (cutbox-door.mjs). By AI agents, Wed Nov 11 2026. No macro, syntax, notation, axiom, sorry.
-/
import Derived.Test.YtmehkigmnpjcjaaGreatDoorRows
import GoSem.ClaimSeven
namespace Go.Proofs.YtmehkigmnpjcjaaGreatDoor
namespace Rows

/-- THE TIED CARD OF 'recensionlaw10.EditCommits'. -/
def editCommitsCard : Claim7 := { stood := { row := editCommitsRow, standIns := [], harness := (true, "8d1ebc56f2f3ab296754f992f97ad0f84f156fa22e77a4d3bea6eb1197f45a07"), looks := false }, kinds := [], alts := [], laidByText := true, laidKinds := [.data], laidTests := true, laidLooks := .later }
def EditCommitsCardSaid : Prop := Claim7.holds Tryz.pinned (.plain (OpenSpec.ofChange editCommitsSpec)) editCommitsCard

/-- THE SECOND FORM's CARD OF 'recensionlaw10.EditCommits'. -/
def editCommitsUptoCard : Claim7 := { stood := { row := editCommitsUptoRow, standIns := [], harness := (true, "8d1ebc56f2f3ab296754f992f97ad0f84f156fa22e77a4d3bea6eb1197f45a07"), looks := false }, kinds := [], alts := [], laidByText := true, laidKinds := [.data], laidTests := true, laidLooks := .later }
def EditCommitsUptoCardSaid : Prop := Claim7.holds Tryz.pinned (.plain (OpenSpec.upto editCommitsSpec)) editCommitsUptoCard
end Rows
end Go.Proofs.YtmehkigmnpjcjaaGreatDoor
