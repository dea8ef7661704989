/-
  DERIVED. GIVEN WITH THE SEED: THE CARDS: each row of YtkbmlnkoejlgmaaDoorRows.lean that lists a variable, with what it lists TIED to the program's text (the seventh form; the later family's looks); each row that meets fmt, with fmt's text TOLD by the authors' own Lean function (tested against real Go, not proved from fmt's source: count such statements apart). THE CARD IS WHAT COUNTS. Prove the row's statement (the work); the ties are given (YtkbmlnkoejlgmaaDoorTie.lean); close each card by the builder's one call (the guide's Derived/Test/ToyasCard.lean, 'card_holds'). Laid BY PROGRAM, IN A SANDBOX (cutbox-door.mjs). By AI agents, Wed Nov 11 2026. No macro, syntax, notation, axiom, sorry.
-/
import Derived.Test.YtkbmlnkoejlgmaaDoorRows
import GoSem.ClaimSeven
namespace Go.Proofs.YtkbmlnkoejlgmaaDoor
namespace Rows

/-- THE TIED CARD OF 'recensionlaw11.StoreBack'. -/
def storeBackCard : Claim7 := { stood := { row := storeBackRow, standIns := [], harness := (true, "01aff85d155ae8e6e8037550e1a5c7ff66718854a6ce855713166e66f9e71a8a"), looks := false }, kinds := [], alts := [], laidByText := true, laidKinds := [.data], laidTests := true, laidLooks := .later }
def StoreBackCardSaid : Prop := Claim7.holds Tryd.pinned (.plain (OpenSpec.ofChange storeBackSpec)) storeBackCard

/-- THE TIED CARD OF 'recensionlaw11.StoreOnce'. -/
def storeOnceCard : Claim7 := { stood := { row := storeOnceRow, standIns := [], harness := (true, "01aff85d155ae8e6e8037550e1a5c7ff66718854a6ce855713166e66f9e71a8a"), looks := false }, kinds := [], alts := [], laidByText := true, laidKinds := [.data], laidTests := true, laidLooks := .later }
def StoreOnceCardSaid : Prop := Claim7.holds Tryd.pinned (.plain (OpenSpec.ofChange storeOnceSpec)) storeOnceCard

/-- THE TIED CARD OF 'recensionlaw11.StoreWalks'. -/
def storeWalksCard : Claim7 := { stood := { row := storeWalksRow, standIns := [], harness := (true, "01aff85d155ae8e6e8037550e1a5c7ff66718854a6ce855713166e66f9e71a8a"), looks := false }, kinds := [], alts := [], laidByText := true, laidKinds := [.data], laidTests := true, laidLooks := .later }
def StoreWalksCardSaid : Prop := Claim7.holds Tryd.pinned (.plain (OpenSpec.ofChange storeWalksSpec)) storeWalksCard

/-- THE TIED CARD OF 'recensionlaw11.StorePlays'. -/
def storePlaysCard : Claim7 := { stood := { row := storePlaysRow, standIns := [], harness := (true, "01aff85d155ae8e6e8037550e1a5c7ff66718854a6ce855713166e66f9e71a8a"), looks := false }, kinds := [], alts := [], laidByText := true, laidKinds := [.data], laidTests := true, laidLooks := .later }
def StorePlaysCardSaid : Prop := Claim7.holds Tryd.pinned (.plain (OpenSpec.ofChange storePlaysSpec)) storePlaysCard

/-- THE SECOND FORM's CARD OF 'recensionlaw11.StoreBack'. -/
def storeBackUptoCard : Claim7 := { stood := { row := storeBackUptoRow, standIns := [], harness := (true, "01aff85d155ae8e6e8037550e1a5c7ff66718854a6ce855713166e66f9e71a8a"), looks := false }, kinds := [], alts := [], laidByText := true, laidKinds := [.data], laidTests := true, laidLooks := .later }
def StoreBackUptoCardSaid : Prop := Claim7.holds Tryd.pinned (.plain (OpenSpec.upto storeBackSpec)) storeBackUptoCard

/-- THE SECOND FORM's CARD OF 'recensionlaw11.StoreOnce'. -/
def storeOnceUptoCard : Claim7 := { stood := { row := storeOnceUptoRow, standIns := [], harness := (true, "01aff85d155ae8e6e8037550e1a5c7ff66718854a6ce855713166e66f9e71a8a"), looks := false }, kinds := [], alts := [], laidByText := true, laidKinds := [.data], laidTests := true, laidLooks := .later }
def StoreOnceUptoCardSaid : Prop := Claim7.holds Tryd.pinned (.plain (OpenSpec.upto storeOnceSpec)) storeOnceUptoCard

/-- THE SECOND FORM's CARD OF 'recensionlaw11.StoreWalks'. -/
def storeWalksUptoCard : Claim7 := { stood := { row := storeWalksUptoRow, standIns := [], harness := (true, "01aff85d155ae8e6e8037550e1a5c7ff66718854a6ce855713166e66f9e71a8a"), looks := false }, kinds := [], alts := [], laidByText := true, laidKinds := [.data], laidTests := true, laidLooks := .later }
def StoreWalksUptoCardSaid : Prop := Claim7.holds Tryd.pinned (.plain (OpenSpec.upto storeWalksSpec)) storeWalksUptoCard

/-- THE SECOND FORM's CARD OF 'recensionlaw11.StorePlays'. -/
def storePlaysUptoCard : Claim7 := { stood := { row := storePlaysUptoRow, standIns := [], harness := (true, "01aff85d155ae8e6e8037550e1a5c7ff66718854a6ce855713166e66f9e71a8a"), looks := false }, kinds := [], alts := [], laidByText := true, laidKinds := [.data], laidTests := true, laidLooks := .later }
def StorePlaysUptoCardSaid : Prop := Claim7.holds Tryd.pinned (.plain (OpenSpec.upto storePlaysSpec)) storePlaysUptoCard
end Rows
end Go.Proofs.YtkbmlnkoejlgmaaDoor
