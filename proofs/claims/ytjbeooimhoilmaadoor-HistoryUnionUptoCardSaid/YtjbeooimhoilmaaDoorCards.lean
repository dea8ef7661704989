/-
  DERIVED. GIVEN WITH THE SEED: THE CARDS: each row of YtjbeooimhoilmaaDoorRows.lean that lists a variable, with what it lists TIED to the program's text (the seventh form; the later family's looks); each row that meets fmt, with fmt's text TOLD by the authors' own Lean function (tested against real Go, not proved from fmt's source: count such statements apart). THE CARD IS WHAT COUNTS. Prove the row's statement (the work); the ties are given (YtjbeooimhoilmaaDoorTie.lean); close each card by the builder's one call (the guide's Derived/Test/ToyasCard.lean, 'card_holds'). Laid BY PROGRAM, IN A SANDBOX (cutbox-door.mjs). By AI agents, Wed Nov 11 2026. No macro, syntax, notation, axiom, sorry.
-/
import Derived.Test.YtjbeooimhoilmaaDoorRows
import GoSem.ClaimSeven
namespace Go.Proofs.YtjbeooimhoilmaaDoor
namespace Rows

/-- THE TIED CARD OF 'recensionlaw09.HistoryLattice'. -/
def historyLatticeCard : Claim7 := { stood := { row := historyLatticeRow, standIns := [], harness := (true, "12c9ef36bc8b1bc61f5dd6cd1143a71179ca020c77f24b2cf4c9894625608b1f"), looks := false }, kinds := [], alts := [], laidByText := true, laidKinds := [.data], laidTests := true, laidLooks := .later }
def HistoryLatticeCardSaid : Prop := Claim7.holds Tryd.pinned (.plain (OpenSpec.ofChange historyLatticeSpec)) historyLatticeCard

/-- THE TIED CARD OF 'recensionlaw09.HistoryStays'. -/
def historyStaysCard : Claim7 := { stood := { row := historyStaysRow, standIns := [], harness := (true, "12c9ef36bc8b1bc61f5dd6cd1143a71179ca020c77f24b2cf4c9894625608b1f"), looks := false }, kinds := [], alts := [], laidByText := true, laidKinds := [.data], laidTests := true, laidLooks := .later }
def HistoryStaysCardSaid : Prop := Claim7.holds Tryd.pinned (.plain (OpenSpec.ofChange historyStaysSpec)) historyStaysCard

/-- THE TIED CARD OF 'recensionlaw09.HistoryUnion'. -/
def historyUnionCard : Claim7 := { stood := { row := historyUnionRow, standIns := [], harness := (true, "12c9ef36bc8b1bc61f5dd6cd1143a71179ca020c77f24b2cf4c9894625608b1f"), looks := false }, kinds := [], alts := [], laidByText := true, laidKinds := [.data], laidTests := true, laidLooks := .later }
def HistoryUnionCardSaid : Prop := Claim7.holds Tryd.pinned (.plain (OpenSpec.ofChange historyUnionSpec)) historyUnionCard

/-- THE TIED CARD OF 'recensionlaw09.HistoryAnyOrder'. -/
def historyAnyOrderCard : Claim7 := { stood := { row := historyAnyOrderRow, standIns := [], harness := (true, "12c9ef36bc8b1bc61f5dd6cd1143a71179ca020c77f24b2cf4c9894625608b1f"), looks := false }, kinds := [], alts := [], laidByText := true, laidKinds := [.data], laidTests := true, laidLooks := .later }
def HistoryAnyOrderCardSaid : Prop := Claim7.holds Tryd.pinned (.plain (OpenSpec.ofChange historyAnyOrderSpec)) historyAnyOrderCard

/-- THE SECOND FORM's CARD OF 'recensionlaw09.HistoryLattice'. -/
def historyLatticeUptoCard : Claim7 := { stood := { row := historyLatticeUptoRow, standIns := [], harness := (true, "12c9ef36bc8b1bc61f5dd6cd1143a71179ca020c77f24b2cf4c9894625608b1f"), looks := false }, kinds := [], alts := [], laidByText := true, laidKinds := [.data], laidTests := true, laidLooks := .later }
def HistoryLatticeUptoCardSaid : Prop := Claim7.holds Tryd.pinned (.plain (OpenSpec.upto historyLatticeSpec)) historyLatticeUptoCard

/-- THE SECOND FORM's CARD OF 'recensionlaw09.HistoryStays'. -/
def historyStaysUptoCard : Claim7 := { stood := { row := historyStaysUptoRow, standIns := [], harness := (true, "12c9ef36bc8b1bc61f5dd6cd1143a71179ca020c77f24b2cf4c9894625608b1f"), looks := false }, kinds := [], alts := [], laidByText := true, laidKinds := [.data], laidTests := true, laidLooks := .later }
def HistoryStaysUptoCardSaid : Prop := Claim7.holds Tryd.pinned (.plain (OpenSpec.upto historyStaysSpec)) historyStaysUptoCard

/-- THE SECOND FORM's CARD OF 'recensionlaw09.HistoryUnion'. -/
def historyUnionUptoCard : Claim7 := { stood := { row := historyUnionUptoRow, standIns := [], harness := (true, "12c9ef36bc8b1bc61f5dd6cd1143a71179ca020c77f24b2cf4c9894625608b1f"), looks := false }, kinds := [], alts := [], laidByText := true, laidKinds := [.data], laidTests := true, laidLooks := .later }
def HistoryUnionUptoCardSaid : Prop := Claim7.holds Tryd.pinned (.plain (OpenSpec.upto historyUnionSpec)) historyUnionUptoCard

/-- THE SECOND FORM's CARD OF 'recensionlaw09.HistoryAnyOrder'. -/
def historyAnyOrderUptoCard : Claim7 := { stood := { row := historyAnyOrderUptoRow, standIns := [], harness := (true, "12c9ef36bc8b1bc61f5dd6cd1143a71179ca020c77f24b2cf4c9894625608b1f"), looks := false }, kinds := [], alts := [], laidByText := true, laidKinds := [.data], laidTests := true, laidLooks := .later }
def HistoryAnyOrderUptoCardSaid : Prop := Claim7.holds Tryd.pinned (.plain (OpenSpec.upto historyAnyOrderSpec)) historyAnyOrderUptoCard
end Rows
end Go.Proofs.YtjbeooimhoilmaaDoor
