/-
  DERIVED. GIVEN WITH THE SEED: THE CARDS: each row of YtoncdfpohdchgaaDoorRows.lean that lists a variable, with what it lists TIED to the program's text (the seventh form; the later family's looks); each row that meets fmt, with fmt's text TOLD by the authors' own Lean function (tested against real Go, not proved from fmt's source: count such statements apart). THE CARD IS WHAT COUNTS. Prove the row's statement (the work); the ties are given (YtoncdfpohdchgaaDoorTie.lean); close each card by the builder's one call (the guide's Derived/Test/ToyasCard.lean, 'card_holds'). Laid BY PROGRAM, IN A SANDBOX (cutbox-door.mjs). By AI agents, Wed Nov 11 2026. No macro, syntax, notation, axiom, sorry.
-/
import Derived.Test.YtoncdfpohdchgaaDoorRows
import GoSem.ClaimSeven
namespace Go.Proofs.YtoncdfpohdchgaaDoor
namespace Rows

/-- THE TIED CARD OF 'recensionlaw12.PackBack'. -/
def packBackCard : Claim7 := { stood := { row := packBackRow, standIns := [], harness := (true, "f20a76ccd142eb4fa1fd4574effd0b17b7692d67715c8ca7e035122f8bf0fa31"), looks := true }, kinds := [], alts := [], laidByText := true, laidKinds := [.data], laidTests := true, laidLooks := .later }
def PackBackCardSaid : Prop := Claim7.holds Tryd.pinned (.plain (OpenSpec.ofChange packBackSpec)) packBackCard

/-- THE TIED CARD OF 'recensionlaw12.PackOnce'. -/
def packOnceCard : Claim7 := { stood := { row := packOnceRow, standIns := [], harness := (true, "f20a76ccd142eb4fa1fd4574effd0b17b7692d67715c8ca7e035122f8bf0fa31"), looks := true }, kinds := [], alts := [], laidByText := true, laidKinds := [.data], laidTests := true, laidLooks := .later }
def PackOnceCardSaid : Prop := Claim7.holds Tryd.pinned (.plain (OpenSpec.ofChange packOnceSpec)) packOnceCard

/-- THE TIED CARD OF 'recensionlaw12.PackSpoilt'. -/
def packSpoiltCard : Claim7 := { stood := { row := packSpoiltRow, standIns := [], harness := (true, "f20a76ccd142eb4fa1fd4574effd0b17b7692d67715c8ca7e035122f8bf0fa31"), looks := true }, kinds := [], alts := [], laidByText := true, laidKinds := [.data], laidTests := true, laidLooks := .later }
def PackSpoiltCardSaid : Prop := Claim7.holds Tryd.pinned (.plain (OpenSpec.ofChange packSpoiltSpec)) packSpoiltCard

/-- THE TIED CARD OF 'recensionlaw12.PackHeads'. -/
def packHeadsCard : Claim7 := { stood := { row := packHeadsRow, standIns := [], harness := (true, "f20a76ccd142eb4fa1fd4574effd0b17b7692d67715c8ca7e035122f8bf0fa31"), looks := true }, kinds := [], alts := [], laidByText := true, laidKinds := [.data], laidTests := true, laidLooks := .later }
def PackHeadsCardSaid : Prop := Claim7.holds Tryd.pinned (.plain (OpenSpec.ofChange packHeadsSpec)) packHeadsCard

/-- THE TIED CARD OF 'recensionlaw12.PackFans'. -/
def packFansCard : Claim7 := { stood := { row := packFansRow, standIns := [], harness := (true, "f20a76ccd142eb4fa1fd4574effd0b17b7692d67715c8ca7e035122f8bf0fa31"), looks := true }, kinds := [], alts := [], laidByText := true, laidKinds := [.data], laidTests := true, laidLooks := .later }
def PackFansCardSaid : Prop := Claim7.holds Tryd.pinned (.plain (OpenSpec.ofChange packFansSpec)) packFansCard

/-- THE TIED CARD OF 'recensionlaw12.PackKeeps'. -/
def packKeepsCard : Claim7 := { stood := { row := packKeepsRow, standIns := [], harness := (true, "f20a76ccd142eb4fa1fd4574effd0b17b7692d67715c8ca7e035122f8bf0fa31"), looks := true }, kinds := [], alts := [], laidByText := true, laidKinds := [.data], laidTests := true, laidLooks := .later }
def PackKeepsCardSaid : Prop := Claim7.holds Tryd.pinned (.plain (OpenSpec.ofChange packKeepsSpec)) packKeepsCard

/-- THE SECOND FORM's CARD OF 'recensionlaw12.PackBack'. -/
def packBackUptoCard : Claim7 := { stood := { row := packBackUptoRow, standIns := [], harness := (true, "f20a76ccd142eb4fa1fd4574effd0b17b7692d67715c8ca7e035122f8bf0fa31"), looks := true }, kinds := [], alts := [], laidByText := true, laidKinds := [.data], laidTests := true, laidLooks := .later }
def PackBackUptoCardSaid : Prop := Claim7.holds Tryd.pinned (.plain (OpenSpec.upto packBackSpec)) packBackUptoCard

/-- THE SECOND FORM's CARD OF 'recensionlaw12.PackOnce'. -/
def packOnceUptoCard : Claim7 := { stood := { row := packOnceUptoRow, standIns := [], harness := (true, "f20a76ccd142eb4fa1fd4574effd0b17b7692d67715c8ca7e035122f8bf0fa31"), looks := true }, kinds := [], alts := [], laidByText := true, laidKinds := [.data], laidTests := true, laidLooks := .later }
def PackOnceUptoCardSaid : Prop := Claim7.holds Tryd.pinned (.plain (OpenSpec.upto packOnceSpec)) packOnceUptoCard

/-- THE SECOND FORM's CARD OF 'recensionlaw12.PackSpoilt'. -/
def packSpoiltUptoCard : Claim7 := { stood := { row := packSpoiltUptoRow, standIns := [], harness := (true, "f20a76ccd142eb4fa1fd4574effd0b17b7692d67715c8ca7e035122f8bf0fa31"), looks := true }, kinds := [], alts := [], laidByText := true, laidKinds := [.data], laidTests := true, laidLooks := .later }
def PackSpoiltUptoCardSaid : Prop := Claim7.holds Tryd.pinned (.plain (OpenSpec.upto packSpoiltSpec)) packSpoiltUptoCard

/-- THE SECOND FORM's CARD OF 'recensionlaw12.PackHeads'. -/
def packHeadsUptoCard : Claim7 := { stood := { row := packHeadsUptoRow, standIns := [], harness := (true, "f20a76ccd142eb4fa1fd4574effd0b17b7692d67715c8ca7e035122f8bf0fa31"), looks := true }, kinds := [], alts := [], laidByText := true, laidKinds := [.data], laidTests := true, laidLooks := .later }
def PackHeadsUptoCardSaid : Prop := Claim7.holds Tryd.pinned (.plain (OpenSpec.upto packHeadsSpec)) packHeadsUptoCard

/-- THE SECOND FORM's CARD OF 'recensionlaw12.PackFans'. -/
def packFansUptoCard : Claim7 := { stood := { row := packFansUptoRow, standIns := [], harness := (true, "f20a76ccd142eb4fa1fd4574effd0b17b7692d67715c8ca7e035122f8bf0fa31"), looks := true }, kinds := [], alts := [], laidByText := true, laidKinds := [.data], laidTests := true, laidLooks := .later }
def PackFansUptoCardSaid : Prop := Claim7.holds Tryd.pinned (.plain (OpenSpec.upto packFansSpec)) packFansUptoCard

/-- THE SECOND FORM's CARD OF 'recensionlaw12.PackKeeps'. -/
def packKeepsUptoCard : Claim7 := { stood := { row := packKeepsUptoRow, standIns := [], harness := (true, "f20a76ccd142eb4fa1fd4574effd0b17b7692d67715c8ca7e035122f8bf0fa31"), looks := true }, kinds := [], alts := [], laidByText := true, laidKinds := [.data], laidTests := true, laidLooks := .later }
def PackKeepsUptoCardSaid : Prop := Claim7.holds Tryd.pinned (.plain (OpenSpec.upto packKeepsSpec)) packKeepsUptoCard
end Rows
end Go.Proofs.YtoncdfpohdchgaaDoor
