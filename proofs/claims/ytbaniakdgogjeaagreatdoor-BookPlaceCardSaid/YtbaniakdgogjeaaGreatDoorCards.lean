/-
  DERIVED. GIVEN WITH THE SEED: THE CARDS: each row of YtbaniakdgogjeaaGreatDoorRows.lean that lists a variable, with what it lists TIED to the program's text (the seventh form; the later family's looks); each row that meets fmt, with fmt's text TOLD by the authors' own Lean function (tested against real Go, not proved from fmt's source: count such statements apart). THE CARD IS WHAT COUNTS. Prove the row's statement (the work); the ties are given (YtbaniakdgogjeaaGreatDoorTie.lean); close each card by the builder's one call (the guide's Derived/Test/ToyasCard.lean, 'card_holds'). Laid BY PROGRAM, IN A SANDBOX (cutbox-door.mjs). By AI agents, Wed Nov 11 2026. No macro, syntax, notation, axiom, sorry.
-/
import Derived.Test.YtbaniakdgogjeaaGreatDoorRows
import GoSem.ClaimSeven
namespace Go.Proofs.YtbaniakdgogjeaaGreatDoor
namespace Rows

/-- THE TIED CARD OF 'foreshorelaw12.BookAgain'. -/
def bookAgainCard : Claim7 := { stood := { row := bookAgainRow, standIns := [], harness := (true, "75ec105df54f9c526a237f46db90194c33929cb4887ed7dd7864b27907b9505e"), looks := true }, kinds := [], alts := [], laidByText := true, laidKinds := [.data, .data, .data, .data, .sentinel, .sentinel, .pinned], laidTests := true, laidLooks := .later }
def BookAgainCardSaid : Prop := Claim7.holds Tryz.pinned (.plain (OpenSpec.ofChange bookAgainSpec)) bookAgainCard

/-- THE TIED CARD OF 'foreshorelaw12.BookStops'. -/
def bookStopsCard : Claim7 := { stood := { row := bookStopsRow, standIns := [], harness := (true, "75ec105df54f9c526a237f46db90194c33929cb4887ed7dd7864b27907b9505e"), looks := true }, kinds := [], alts := [], laidByText := true, laidKinds := [.data, .data, .data, .data, .sentinel, .sentinel, .pinned], laidTests := true, laidLooks := .later }
def BookStopsCardSaid : Prop := Claim7.holds Tryz.pinned (.plain (OpenSpec.ofChange bookStopsSpec)) bookStopsCard

/-- THE TIED CARD OF 'foreshorelaw12.BookPlace'. -/
def bookPlaceCard : Claim7 := { stood := { row := bookPlaceRow, standIns := [], harness := (true, "75ec105df54f9c526a237f46db90194c33929cb4887ed7dd7864b27907b9505e"), looks := true }, kinds := [], alts := [], laidByText := true, laidKinds := [.data, .data, .data, .data, .sentinel, .sentinel, .pinned], laidTests := true, laidLooks := .later }
def BookPlaceCardSaid : Prop := Claim7.holds Tryz.pinned (.plain (OpenSpec.ofChange bookPlaceSpec)) bookPlaceCard

/-- THE SECOND FORM's CARD OF 'foreshorelaw12.BookAgain'. -/
def bookAgainUptoCard : Claim7 := { stood := { row := bookAgainUptoRow, standIns := [], harness := (true, "75ec105df54f9c526a237f46db90194c33929cb4887ed7dd7864b27907b9505e"), looks := true }, kinds := [], alts := [], laidByText := true, laidKinds := [.data, .data, .data, .data, .sentinel, .sentinel, .pinned], laidTests := true, laidLooks := .later }
def BookAgainUptoCardSaid : Prop := Claim7.holds Tryz.pinned (.plain (OpenSpec.upto bookAgainSpec)) bookAgainUptoCard

/-- THE SECOND FORM's CARD OF 'foreshorelaw12.BookStops'. -/
def bookStopsUptoCard : Claim7 := { stood := { row := bookStopsUptoRow, standIns := [], harness := (true, "75ec105df54f9c526a237f46db90194c33929cb4887ed7dd7864b27907b9505e"), looks := true }, kinds := [], alts := [], laidByText := true, laidKinds := [.data, .data, .data, .data, .sentinel, .sentinel, .pinned], laidTests := true, laidLooks := .later }
def BookStopsUptoCardSaid : Prop := Claim7.holds Tryz.pinned (.plain (OpenSpec.upto bookStopsSpec)) bookStopsUptoCard

/-- THE SECOND FORM's CARD OF 'foreshorelaw12.BookPlace'. -/
def bookPlaceUptoCard : Claim7 := { stood := { row := bookPlaceUptoRow, standIns := [], harness := (true, "75ec105df54f9c526a237f46db90194c33929cb4887ed7dd7864b27907b9505e"), looks := true }, kinds := [], alts := [], laidByText := true, laidKinds := [.data, .data, .data, .data, .sentinel, .sentinel, .pinned], laidTests := true, laidLooks := .later }
def BookPlaceUptoCardSaid : Prop := Claim7.holds Tryz.pinned (.plain (OpenSpec.upto bookPlaceSpec)) bookPlaceUptoCard
end Rows
end Go.Proofs.YtbaniakdgogjeaaGreatDoor
