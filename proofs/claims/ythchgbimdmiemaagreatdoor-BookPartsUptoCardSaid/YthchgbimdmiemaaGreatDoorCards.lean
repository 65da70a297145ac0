/-
  DERIVED. GIVEN WITH THE SEED: THE CARDS: each row of YthchgbimdmiemaaGreatDoorRows.lean that lists a variable, with what it lists TIED to the program's text (the seventh form; the later family's looks); each row that meets fmt, with fmt's text TOLD by the authors' own Lean function (tested against real Go, not proved from fmt's source: count such statements apart). THE CARD IS WHAT COUNTS. Prove the row's statement (the work); the ties are given (YthchgbimdmiemaaGreatDoorTie.lean); close each card by the builder's one call (the guide's Derived/Test/ToyasCard.lean, 'card_holds'). Laid BY PROGRAM, IN A SANDBOX (cutbox-door.mjs). By AI agents, Wed Nov 11 2026. No macro, syntax, notation, axiom, sorry.
-/
import Derived.Test.YthchgbimdmiemaaGreatDoorRows
import GoSem.ClaimSeven
namespace Go.Proofs.YthchgbimdmiemaaGreatDoor
namespace Rows

/-- THE TIED CARD OF 'foreshoretop.TopEntered'. -/
def topEnteredCard : Claim7 := { stood := { row := topEnteredRow, standIns := [], harness := (true, "91e0b7d058f7e552828478a2f2ee9d40241f5203e1fbb465a797f4679aa83d56"), looks := true }, kinds := [], alts := [], laidByText := true, laidKinds := [.data, .data, .data, .data, .sentinel, .sentinel, .pinned], laidTests := true, laidLooks := .later }
def TopEnteredCardSaid : Prop := Claim7.holds Tryz.pinned (.plain (OpenSpec.ofChange topEnteredSpec)) topEnteredCard

/-- THE TIED CARD OF 'foreshorelaw12.BookReplays'. -/
def bookReplaysCard : Claim7 := { stood := { row := bookReplaysRow, standIns := [], harness := (true, "91e0b7d058f7e552828478a2f2ee9d40241f5203e1fbb465a797f4679aa83d56"), looks := true }, kinds := [], alts := [], laidByText := true, laidKinds := [.data, .data, .data, .data, .sentinel, .sentinel, .pinned], laidTests := true, laidLooks := .later }
def BookReplaysCardSaid : Prop := Claim7.holds Tryz.pinned (.plain (OpenSpec.ofChange bookReplaysSpec)) bookReplaysCard

/-- THE TIED CARD OF 'foreshorelaw12.BookStands'. -/
def bookStandsCard : Claim7 := { stood := { row := bookStandsRow, standIns := [], harness := (true, "91e0b7d058f7e552828478a2f2ee9d40241f5203e1fbb465a797f4679aa83d56"), looks := true }, kinds := [], alts := [], laidByText := true, laidKinds := [.data, .data, .data, .data, .sentinel, .sentinel, .pinned], laidTests := true, laidLooks := .later }
def BookStandsCardSaid : Prop := Claim7.holds Tryz.pinned (.plain (OpenSpec.ofChange bookStandsSpec)) bookStandsCard

/-- THE TIED CARD OF 'foreshorelaw12.BookParts'. -/
def bookPartsCard : Claim7 := { stood := { row := bookPartsRow, standIns := [], harness := (true, "91e0b7d058f7e552828478a2f2ee9d40241f5203e1fbb465a797f4679aa83d56"), looks := true }, kinds := [], alts := [], laidByText := true, laidKinds := [.data, .data, .data, .data, .sentinel, .sentinel, .pinned], laidTests := true, laidLooks := .later }
def BookPartsCardSaid : Prop := Claim7.holds Tryz.pinned (.plain (OpenSpec.ofChange bookPartsSpec)) bookPartsCard

/-- THE SECOND FORM's CARD OF 'foreshoretop.TopEntered'. -/
def topEnteredUptoCard : Claim7 := { stood := { row := topEnteredUptoRow, standIns := [], harness := (true, "91e0b7d058f7e552828478a2f2ee9d40241f5203e1fbb465a797f4679aa83d56"), looks := true }, kinds := [], alts := [], laidByText := true, laidKinds := [.data, .data, .data, .data, .sentinel, .sentinel, .pinned], laidTests := true, laidLooks := .later }
def TopEnteredUptoCardSaid : Prop := Claim7.holds Tryz.pinned (.plain (OpenSpec.upto topEnteredSpec)) topEnteredUptoCard

/-- THE SECOND FORM's CARD OF 'foreshorelaw12.BookReplays'. -/
def bookReplaysUptoCard : Claim7 := { stood := { row := bookReplaysUptoRow, standIns := [], harness := (true, "91e0b7d058f7e552828478a2f2ee9d40241f5203e1fbb465a797f4679aa83d56"), looks := true }, kinds := [], alts := [], laidByText := true, laidKinds := [.data, .data, .data, .data, .sentinel, .sentinel, .pinned], laidTests := true, laidLooks := .later }
def BookReplaysUptoCardSaid : Prop := Claim7.holds Tryz.pinned (.plain (OpenSpec.upto bookReplaysSpec)) bookReplaysUptoCard

/-- THE SECOND FORM's CARD OF 'foreshorelaw12.BookStands'. -/
def bookStandsUptoCard : Claim7 := { stood := { row := bookStandsUptoRow, standIns := [], harness := (true, "91e0b7d058f7e552828478a2f2ee9d40241f5203e1fbb465a797f4679aa83d56"), looks := true }, kinds := [], alts := [], laidByText := true, laidKinds := [.data, .data, .data, .data, .sentinel, .sentinel, .pinned], laidTests := true, laidLooks := .later }
def BookStandsUptoCardSaid : Prop := Claim7.holds Tryz.pinned (.plain (OpenSpec.upto bookStandsSpec)) bookStandsUptoCard

/-- THE SECOND FORM's CARD OF 'foreshorelaw12.BookParts'. -/
def bookPartsUptoCard : Claim7 := { stood := { row := bookPartsUptoRow, standIns := [], harness := (true, "91e0b7d058f7e552828478a2f2ee9d40241f5203e1fbb465a797f4679aa83d56"), looks := true }, kinds := [], alts := [], laidByText := true, laidKinds := [.data, .data, .data, .data, .sentinel, .sentinel, .pinned], laidTests := true, laidLooks := .later }
def BookPartsUptoCardSaid : Prop := Claim7.holds Tryz.pinned (.plain (OpenSpec.upto bookPartsSpec)) bookPartsUptoCard
end Rows
end Go.Proofs.YthchgbimdmiemaaGreatDoor
