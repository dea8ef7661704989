/-
  DERIVED. GIVEN WITH THE SEED: THE CARDS: each row of YtjbeooimhoilmaaGreatDoorRows.lean that lists a variable, with what it lists TIED to the program's text (the seventh form; the later family's looks); each row that meets fmt, with fmt's text TOLD by the authors' own Lean function (tested against real Go, not proved from fmt's source: count such statements apart). THE CARD IS WHAT COUNTS. Prove the row's statement (the work); the ties are given (YtjbeooimhoilmaaGreatDoorTie.lean); close each card by the builder's one call (the guide's Derived/Test/ToyasCard.lean, 'card_holds'). Laid BY PROGRAM, IN A SANDBOX (cutbox-door.mjs). By AI agents, Wed Nov 11 2026. No macro, syntax, notation, axiom, sorry.
-/
import Derived.Test.YtjbeooimhoilmaaGreatDoorRows
import GoSem.ClaimSeven
namespace Go.Proofs.YtjbeooimhoilmaaGreatDoor
namespace Rows

/-- THE TIED CARD OF 'recensionlaw09.HistoryMerges'. -/
def historyMergesCard : Claim7 := { stood := { row := historyMergesRow, standIns := [], harness := (true, "1f7c0d5270a44413ef9b753f6d75242c732976e74e4e6cf0864eb5ba850c2784"), looks := false }, kinds := [], alts := [], laidByText := true, laidKinds := [.data], laidTests := true, laidLooks := .later }
def HistoryMergesCardSaid : Prop := Claim7.holds Tryz.pinned (.plain (OpenSpec.ofChange historyMergesSpec)) historyMergesCard

/-- THE TIED CARD OF 'recensionlaw09.HistoryChecks'. -/
def historyChecksCard : Claim7 := { stood := { row := historyChecksRow, standIns := [], harness := (true, "1f7c0d5270a44413ef9b753f6d75242c732976e74e4e6cf0864eb5ba850c2784"), looks := false }, kinds := [], alts := [], laidByText := true, laidKinds := [.data], laidTests := true, laidLooks := .later }
def HistoryChecksCardSaid : Prop := Claim7.holds Tryz.pinned (.plain (OpenSpec.ofChange historyChecksSpec)) historyChecksCard

/-- THE TIED CARD OF 'recensionlaw09.HistoryTexts'. -/
def historyTextsCard : Claim7 := { stood := { row := historyTextsRow, standIns := [], harness := (true, "1f7c0d5270a44413ef9b753f6d75242c732976e74e4e6cf0864eb5ba850c2784"), looks := false }, kinds := [], alts := [], laidByText := true, laidKinds := [.data], laidTests := true, laidLooks := .later }
def HistoryTextsCardSaid : Prop := Claim7.holds Tryz.pinned (.plain (OpenSpec.ofChange historyTextsSpec)) historyTextsCard

/-- THE SECOND FORM's CARD OF 'recensionlaw09.HistoryMerges'. -/
def historyMergesUptoCard : Claim7 := { stood := { row := historyMergesUptoRow, standIns := [], harness := (true, "1f7c0d5270a44413ef9b753f6d75242c732976e74e4e6cf0864eb5ba850c2784"), looks := false }, kinds := [], alts := [], laidByText := true, laidKinds := [.data], laidTests := true, laidLooks := .later }
def HistoryMergesUptoCardSaid : Prop := Claim7.holds Tryz.pinned (.plain (OpenSpec.upto historyMergesSpec)) historyMergesUptoCard

/-- THE SECOND FORM's CARD OF 'recensionlaw09.HistoryChecks'. -/
def historyChecksUptoCard : Claim7 := { stood := { row := historyChecksUptoRow, standIns := [], harness := (true, "1f7c0d5270a44413ef9b753f6d75242c732976e74e4e6cf0864eb5ba850c2784"), looks := false }, kinds := [], alts := [], laidByText := true, laidKinds := [.data], laidTests := true, laidLooks := .later }
def HistoryChecksUptoCardSaid : Prop := Claim7.holds Tryz.pinned (.plain (OpenSpec.upto historyChecksSpec)) historyChecksUptoCard

/-- THE SECOND FORM's CARD OF 'recensionlaw09.HistoryTexts'. -/
def historyTextsUptoCard : Claim7 := { stood := { row := historyTextsUptoRow, standIns := [], harness := (true, "1f7c0d5270a44413ef9b753f6d75242c732976e74e4e6cf0864eb5ba850c2784"), looks := false }, kinds := [], alts := [], laidByText := true, laidKinds := [.data], laidTests := true, laidLooks := .later }
def HistoryTextsUptoCardSaid : Prop := Claim7.holds Tryz.pinned (.plain (OpenSpec.upto historyTextsSpec)) historyTextsUptoCard
end Rows
end Go.Proofs.YtjbeooimhoilmaaGreatDoor
