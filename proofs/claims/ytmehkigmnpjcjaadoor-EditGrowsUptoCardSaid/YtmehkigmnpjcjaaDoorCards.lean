/-
  DERIVED. GIVEN WITH THE SEED: THE CARDS: each row of YtmehkigmnpjcjaaDoorRows.lean that lists a variable, with what it lists TIED to the program's text (the seventh form; the later family's looks); each row that meets fmt, with fmt's text TOLD by the authors' own Lean function (tested against real Go, not proved from fmt's source: count such statements apart). THE CARD IS WHAT COUNTS. Prove the row's statement (the work); the ties are given (YtmehkigmnpjcjaaDoorTie.lean); close each card by the builder's one call (the guide's Derived/Test/ToyasCard.lean, 'card_holds'). Laid BY PROGRAM, IN A SANDBOX (cutbox-door.mjs). By AI agents, Wed Nov 11 2026. No macro, syntax, notation, axiom, sorry.
-/
import Derived.Test.YtmehkigmnpjcjaaDoorRows
import GoSem.ClaimSeven
namespace Go.Proofs.YtmehkigmnpjcjaaDoor
namespace Rows

/-- THE TIED CARD OF 'recensionlaw10.EditGrows'. -/
def editGrowsCard : Claim7 := { stood := { row := editGrowsRow, standIns := [], harness := (true, "1d200759d8aa9f8fc79d2edfa69d5472a48271230521aa52b73485f169b006c2"), looks := false }, kinds := [], alts := [], laidByText := true, laidKinds := [.data], laidTests := true, laidLooks := .later }
def EditGrowsCardSaid : Prop := Claim7.holds Tryd.pinned (.plain (OpenSpec.ofChange editGrowsSpec)) editGrowsCard

/-- THE SECOND FORM's CARD OF 'recensionlaw10.EditGrows'. -/
def editGrowsUptoCard : Claim7 := { stood := { row := editGrowsUptoRow, standIns := [], harness := (true, "1d200759d8aa9f8fc79d2edfa69d5472a48271230521aa52b73485f169b006c2"), looks := false }, kinds := [], alts := [], laidByText := true, laidKinds := [.data], laidTests := true, laidLooks := .later }
def EditGrowsUptoCardSaid : Prop := Claim7.holds Tryd.pinned (.plain (OpenSpec.upto editGrowsSpec)) editGrowsUptoCard
end Rows
end Go.Proofs.YtmehkigmnpjcjaaDoor
