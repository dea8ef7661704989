/-
  DERIVED. GIVEN WITH THE SEED: THE CARDS: each row of YtfbagecopapfhaaDoorRows.lean that lists a variable, with what it lists TIED to the program's text (the seventh form; the later family's looks); each row that meets fmt, with fmt's text TOLD by the authors' own Lean function (tested against real Go, not proved from fmt's source: count such statements apart). THE CARD IS WHAT COUNTS. Prove the row's statement (the work); the ties are given (YtfbagecopapfhaaDoorTie.lean); close each card by the builder's one call (the guide's Derived/Test/ToyasCard.lean, 'card_holds'). Laid BY PROGRAM, IN A SANDBOX (cutbox-door.mjs). By AI agents, Wed Nov 11 2026. No macro, syntax, notation, axiom, sorry.
-/
import Derived.Test.YtfbagecopapfhaaDoorRows
import GoSem.ClaimSeven
namespace Go.Proofs.YtfbagecopapfhaaDoor
namespace Rows

/-- THE TIED CARD OF 'recensionlaw06.CommitWrites'. -/
def commitWritesCard : Claim7 := { stood := { row := commitWritesRow, standIns := [], harness := (true, "82605b689f4d0e098800bf062eba8f1818233205eec69705df0fbc425c38e516"), looks := true }, kinds := [], alts := [], laidByText := true, laidKinds := [.data], laidTests := true, laidLooks := .later }
def CommitWritesCardSaid : Prop := Claim7.holds Tryd.pinned (.plain (OpenSpec.ofChange commitWritesSpec)) commitWritesCard

/-- THE TIED CARD OF 'recensionlaw06.CommitBack'. -/
def commitBackCard : Claim7 := { stood := { row := commitBackRow, standIns := [], harness := (true, "82605b689f4d0e098800bf062eba8f1818233205eec69705df0fbc425c38e516"), looks := true }, kinds := [], alts := [], laidByText := true, laidKinds := [.data], laidTests := true, laidLooks := .later }
def CommitBackCardSaid : Prop := Claim7.holds Tryd.pinned (.plain (OpenSpec.ofChange commitBackSpec)) commitBackCard

/-- THE SECOND FORM's CARD OF 'recensionlaw06.CommitWrites'. -/
def commitWritesUptoCard : Claim7 := { stood := { row := commitWritesUptoRow, standIns := [], harness := (true, "82605b689f4d0e098800bf062eba8f1818233205eec69705df0fbc425c38e516"), looks := true }, kinds := [], alts := [], laidByText := true, laidKinds := [.data], laidTests := true, laidLooks := .later }
def CommitWritesUptoCardSaid : Prop := Claim7.holds Tryd.pinned (.plain (OpenSpec.upto commitWritesSpec)) commitWritesUptoCard

/-- THE SECOND FORM's CARD OF 'recensionlaw06.CommitBack'. -/
def commitBackUptoCard : Claim7 := { stood := { row := commitBackUptoRow, standIns := [], harness := (true, "82605b689f4d0e098800bf062eba8f1818233205eec69705df0fbc425c38e516"), looks := true }, kinds := [], alts := [], laidByText := true, laidKinds := [.data], laidTests := true, laidLooks := .later }
def CommitBackUptoCardSaid : Prop := Claim7.holds Tryd.pinned (.plain (OpenSpec.upto commitBackSpec)) commitBackUptoCard
end Rows
end Go.Proofs.YtfbagecopapfhaaDoor
