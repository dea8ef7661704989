/-
  DERIVED. GIVEN WITH THE SEED: THE CARDS: each row of YtfanmpbapabboaaDoorRows.lean that lists a variable, with what it lists TIED to the program's text (the seventh form; the later family's looks); each row that meets fmt, with fmt's text TOLD by the authors' own Lean function (tested against real Go, not proved from fmt's source: count such statements apart). THE CARD IS WHAT COUNTS. Prove the row's statement (the work); the ties are given (YtfanmpbapabboaaDoorTie.lean); close each card by the builder's one call (the guide's Derived/Test/ToyasCard.lean, 'card_holds'). Laid BY PROGRAM, IN A SANDBOX (cutbox-door.mjs). By AI agents, Wed Nov 11 2026. No macro, syntax, notation, axiom, sorry.
-/
import Derived.Test.YtfanmpbapabboaaDoorRows
import GoSem.ClaimSeven
namespace Go.Proofs.YtfanmpbapabboaaDoor
namespace Rows

/-- THE TIED CARD OF 'recensionlaw12.PackKeeps'. -/
def packKeepsCard : Claim7 := { stood := { row := packKeepsRow, standIns := [], harness := (true, "754a0505db523be9ed97042795f3857c20c67ec142730d71fca545c3b7bfb5b0"), looks := true }, kinds := [], alts := [], laidByText := true, laidKinds := [.data], laidTests := true, laidLooks := .later }
def PackKeepsCardSaid : Prop := Claim7.holds Tryd.pinned (.plain (OpenSpec.ofChange packKeepsSpec)) packKeepsCard

/-- THE SECOND FORM's CARD OF 'recensionlaw12.PackKeeps'. -/
def packKeepsUptoCard : Claim7 := { stood := { row := packKeepsUptoRow, standIns := [], harness := (true, "754a0505db523be9ed97042795f3857c20c67ec142730d71fca545c3b7bfb5b0"), looks := true }, kinds := [], alts := [], laidByText := true, laidKinds := [.data], laidTests := true, laidLooks := .later }
def PackKeepsUptoCardSaid : Prop := Claim7.holds Tryd.pinned (.plain (OpenSpec.upto packKeepsSpec)) packKeepsUptoCard
end Rows
end Go.Proofs.YtfanmpbapabboaaDoor
