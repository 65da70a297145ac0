/-
  DERIVED. GIVEN WITH THE SEED: THE CARDS: each row of YtdjdcpieiedfgaaGreatDoorRows.lean that lists a variable, with what it lists TIED to the program's text (the seventh form; the later family's looks); each row that meets fmt, with fmt's text TOLD by the authors' own Lean function (tested against real Go, not proved from fmt's source: count such statements apart). THE CARD IS WHAT COUNTS. Prove the row's statement (the work); the ties are given (YtdjdcpieiedfgaaGreatDoorTie.lean); close each card by the builder's one call (the guide's Derived/Test/ToyasCard.lean, 'card_holds'). Laid BY PROGRAM, IN A SANDBOX (cutbox-door.mjs). By AI agents, Wed Nov 11 2026. No macro, syntax, notation, axiom, sorry.
-/
import Derived.Test.YtdjdcpieiedfgaaGreatDoorRows
import GoSem.ClaimSeven
namespace Go.Proofs.YtdjdcpieiedfgaaGreatDoor
namespace Rows

/-- THE TIED CARD OF 'foreshorelaw12.BookPlays'. -/
def bookPlaysCard : Claim7 := { stood := { row := bookPlaysRow, standIns := [], harness := (true, "96e53098985a4ad25cfe8b8d01fe1c946cdd68bd4de7372044d5e479f38b8633"), looks := true }, kinds := [], alts := [], laidByText := true, laidKinds := [.data, .data, .data, .data, .sentinel, .sentinel, .pinned], laidTests := true, laidLooks := .later }
def BookPlaysCardSaid : Prop := Claim7.holds Tryz.pinned (.plain (OpenSpec.ofChange bookPlaysSpec)) bookPlaysCard

/-- THE TIED CARD OF 'foreshorelaw12.BookAsks'. -/
def bookAsksCard : Claim7 := { stood := { row := bookAsksRow, standIns := [], harness := (true, "96e53098985a4ad25cfe8b8d01fe1c946cdd68bd4de7372044d5e479f38b8633"), looks := true }, kinds := [], alts := [], laidByText := true, laidKinds := [.data, .data, .data, .data, .sentinel, .sentinel, .pinned], laidTests := true, laidLooks := .later }
def BookAsksCardSaid : Prop := Claim7.holds Tryz.pinned (.plain (OpenSpec.ofChange bookAsksSpec)) bookAsksCard

/-- THE TIED CARD OF 'foreshorelaw12.BookReports'. -/
def bookReportsCard : Claim7 := { stood := { row := bookReportsRow, standIns := [], harness := (true, "96e53098985a4ad25cfe8b8d01fe1c946cdd68bd4de7372044d5e479f38b8633"), looks := true }, kinds := [], alts := [], laidByText := true, laidKinds := [.data, .data, .data, .data, .sentinel, .sentinel, .pinned], laidTests := true, laidLooks := .later }
def BookReportsCardSaid : Prop := Claim7.holds Tryz.pinned (.plain (OpenSpec.ofChange bookReportsSpec)) bookReportsCard

/-- THE TIED CARD OF 'foreshorelaw12.BookWider'. -/
def bookWiderCard : Claim7 := { stood := { row := bookWiderRow, standIns := [], harness := (true, "96e53098985a4ad25cfe8b8d01fe1c946cdd68bd4de7372044d5e479f38b8633"), looks := true }, kinds := [], alts := [], laidByText := true, laidKinds := [.data, .data, .data, .data, .sentinel, .sentinel, .pinned], laidTests := true, laidLooks := .later }
def BookWiderCardSaid : Prop := Claim7.holds Tryz.pinned (.plain (OpenSpec.ofChange bookWiderSpec)) bookWiderCard

/-- THE TIED CARD OF 'foreshorelaw12.BookResumes'. -/
def bookResumesCard : Claim7 := { stood := { row := bookResumesRow, standIns := [], harness := (true, "96e53098985a4ad25cfe8b8d01fe1c946cdd68bd4de7372044d5e479f38b8633"), looks := true }, kinds := [], alts := [], laidByText := true, laidKinds := [.data, .data, .data, .data, .sentinel, .sentinel, .pinned], laidTests := true, laidLooks := .later }
def BookResumesCardSaid : Prop := Claim7.holds Tryz.pinned (.plain (OpenSpec.ofChange bookResumesSpec)) bookResumesCard

/-- THE SECOND FORM's CARD OF 'foreshorelaw12.BookPlays'. -/
def bookPlaysUptoCard : Claim7 := { stood := { row := bookPlaysUptoRow, standIns := [], harness := (true, "96e53098985a4ad25cfe8b8d01fe1c946cdd68bd4de7372044d5e479f38b8633"), looks := true }, kinds := [], alts := [], laidByText := true, laidKinds := [.data, .data, .data, .data, .sentinel, .sentinel, .pinned], laidTests := true, laidLooks := .later }
def BookPlaysUptoCardSaid : Prop := Claim7.holds Tryz.pinned (.plain (OpenSpec.upto bookPlaysSpec)) bookPlaysUptoCard

/-- THE SECOND FORM's CARD OF 'foreshorelaw12.BookAsks'. -/
def bookAsksUptoCard : Claim7 := { stood := { row := bookAsksUptoRow, standIns := [], harness := (true, "96e53098985a4ad25cfe8b8d01fe1c946cdd68bd4de7372044d5e479f38b8633"), looks := true }, kinds := [], alts := [], laidByText := true, laidKinds := [.data, .data, .data, .data, .sentinel, .sentinel, .pinned], laidTests := true, laidLooks := .later }
def BookAsksUptoCardSaid : Prop := Claim7.holds Tryz.pinned (.plain (OpenSpec.upto bookAsksSpec)) bookAsksUptoCard

/-- THE SECOND FORM's CARD OF 'foreshorelaw12.BookReports'. -/
def bookReportsUptoCard : Claim7 := { stood := { row := bookReportsUptoRow, standIns := [], harness := (true, "96e53098985a4ad25cfe8b8d01fe1c946cdd68bd4de7372044d5e479f38b8633"), looks := true }, kinds := [], alts := [], laidByText := true, laidKinds := [.data, .data, .data, .data, .sentinel, .sentinel, .pinned], laidTests := true, laidLooks := .later }
def BookReportsUptoCardSaid : Prop := Claim7.holds Tryz.pinned (.plain (OpenSpec.upto bookReportsSpec)) bookReportsUptoCard

/-- THE SECOND FORM's CARD OF 'foreshorelaw12.BookWider'. -/
def bookWiderUptoCard : Claim7 := { stood := { row := bookWiderUptoRow, standIns := [], harness := (true, "96e53098985a4ad25cfe8b8d01fe1c946cdd68bd4de7372044d5e479f38b8633"), looks := true }, kinds := [], alts := [], laidByText := true, laidKinds := [.data, .data, .data, .data, .sentinel, .sentinel, .pinned], laidTests := true, laidLooks := .later }
def BookWiderUptoCardSaid : Prop := Claim7.holds Tryz.pinned (.plain (OpenSpec.upto bookWiderSpec)) bookWiderUptoCard

/-- THE SECOND FORM's CARD OF 'foreshorelaw12.BookResumes'. -/
def bookResumesUptoCard : Claim7 := { stood := { row := bookResumesUptoRow, standIns := [], harness := (true, "96e53098985a4ad25cfe8b8d01fe1c946cdd68bd4de7372044d5e479f38b8633"), looks := true }, kinds := [], alts := [], laidByText := true, laidKinds := [.data, .data, .data, .data, .sentinel, .sentinel, .pinned], laidTests := true, laidLooks := .later }
def BookResumesUptoCardSaid : Prop := Claim7.holds Tryz.pinned (.plain (OpenSpec.upto bookResumesSpec)) bookResumesUptoCard
end Rows
end Go.Proofs.YtdjdcpieiedfgaaGreatDoor
