/-
  DERIVED. GIVEN WITH THE SEED: THE CARDS: each row of YtmmdpkkcedmgoaaGreatDoorRows.lean that lists a variable, with what it lists TIED to the program's text (the seventh form; the later family's looks); each row that meets fmt, with fmt's text TOLD by the authors' own Lean function (tested against real Go, not proved from fmt's source: count such statements apart). THE CARD IS WHAT COUNTS. Prove the row's statement (the work); the ties are given (YtmmdpkkcedmgoaaGreatDoorTie.lean); close each card by the builder's one call (the guide's Derived/Test/ToyasCard.lean, 'card_holds'). Laid BY PROGRAM, IN A SANDBOX (cutbox-door.mjs). By AI agents, Wed Nov 11 2026. No macro, syntax, notation, axiom, sorry.
-/
import Derived.Test.YtmmdpkkcedmgoaaGreatDoorRows
import GoSem.ClaimSeven
namespace Go.Proofs.YtmmdpkkcedmgoaaGreatDoor
namespace Rows

/-- THE TIED CARD OF 'foreshorelaw12.BookAsks'. -/
def bookAsksCard : Claim7 := { stood := { row := bookAsksRow, standIns := [], harness := (true, "6d4ed3b5d8a7de06b899e11d2d86959f5351f01135e0d2ecc9107bcc815a17c6"), looks := true }, kinds := [], alts := [], laidByText := true, laidKinds := [.data, .data, .data, .data, .sentinel, .sentinel, .pinned], laidTests := true, laidLooks := .later }
def BookAsksCardSaid : Prop := Claim7.holds Tryz.pinned (.plain (OpenSpec.ofChange bookAsksSpec)) bookAsksCard

/-- THE TIED CARD OF 'foreshorelaw12.BookReports'. -/
def bookReportsCard : Claim7 := { stood := { row := bookReportsRow, standIns := [], harness := (true, "6d4ed3b5d8a7de06b899e11d2d86959f5351f01135e0d2ecc9107bcc815a17c6"), looks := true }, kinds := [], alts := [], laidByText := true, laidKinds := [.data, .data, .data, .data, .sentinel, .sentinel, .pinned], laidTests := true, laidLooks := .later }
def BookReportsCardSaid : Prop := Claim7.holds Tryz.pinned (.plain (OpenSpec.ofChange bookReportsSpec)) bookReportsCard

/-- THE SECOND FORM's CARD OF 'foreshorelaw12.BookAsks'. -/
def bookAsksUptoCard : Claim7 := { stood := { row := bookAsksUptoRow, standIns := [], harness := (true, "6d4ed3b5d8a7de06b899e11d2d86959f5351f01135e0d2ecc9107bcc815a17c6"), looks := true }, kinds := [], alts := [], laidByText := true, laidKinds := [.data, .data, .data, .data, .sentinel, .sentinel, .pinned], laidTests := true, laidLooks := .later }
def BookAsksUptoCardSaid : Prop := Claim7.holds Tryz.pinned (.plain (OpenSpec.upto bookAsksSpec)) bookAsksUptoCard

/-- THE SECOND FORM's CARD OF 'foreshorelaw12.BookReports'. -/
def bookReportsUptoCard : Claim7 := { stood := { row := bookReportsUptoRow, standIns := [], harness := (true, "6d4ed3b5d8a7de06b899e11d2d86959f5351f01135e0d2ecc9107bcc815a17c6"), looks := true }, kinds := [], alts := [], laidByText := true, laidKinds := [.data, .data, .data, .data, .sentinel, .sentinel, .pinned], laidTests := true, laidLooks := .later }
def BookReportsUptoCardSaid : Prop := Claim7.holds Tryz.pinned (.plain (OpenSpec.upto bookReportsSpec)) bookReportsUptoCard
end Rows
end Go.Proofs.YtmmdpkkcedmgoaaGreatDoor
