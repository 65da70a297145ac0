/-
  DERIVED. GIVEN WITH THE SEED: THE CARDS: each row of YtecfofnchcbojaaGreatDoorRows.lean that lists a variable, with what it lists TIED to the program's text (the seventh form; the later family's looks); each row that meets fmt, with fmt's text TOLD by the authors' own Lean function (tested against real Go, not proved from fmt's source: count such statements apart). THE CARD IS WHAT COUNTS. Prove the row's statement (the work); the ties are given (YtecfofnchcbojaaGreatDoorTie.lean); close each card by the builder's one call (the guide's Derived/Test/ToyasCard.lean, 'card_holds'). Laid BY PROGRAM, IN A SANDBOX (cutbox-door.mjs). By AI agents, Wed Nov 11 2026. No macro, syntax, notation, axiom, sorry.
-/
import Derived.Test.YtecfofnchcbojaaGreatDoorRows
import GoSem.ClaimSeven
namespace Go.Proofs.YtecfofnchcbojaaGreatDoor
namespace Rows

/-- THE TIED CARD OF 'foreshorelaw12.BookUndone'. -/
def bookUndoneCard : Claim7 := { stood := { row := bookUndoneRow, standIns := [], harness := (true, "301489d14f5ad913449d231139cdaa53fcea27fe634b78eddaab55d50e447add"), looks := true }, kinds := [], alts := [], laidByText := true, laidKinds := [.data, .data, .data, .data, .sentinel, .sentinel, .pinned], laidTests := true, laidLooks := .later }
def BookUndoneCardSaid : Prop := Claim7.holds Tryz.pinned (.plain (OpenSpec.ofChange bookUndoneSpec)) bookUndoneCard

/-- THE TIED CARD OF 'foreshorelaw12.BookAgain'. -/
def bookAgainCard : Claim7 := { stood := { row := bookAgainRow, standIns := [], harness := (true, "301489d14f5ad913449d231139cdaa53fcea27fe634b78eddaab55d50e447add"), looks := true }, kinds := [], alts := [], laidByText := true, laidKinds := [.data, .data, .data, .data, .sentinel, .sentinel, .pinned], laidTests := true, laidLooks := .later }
def BookAgainCardSaid : Prop := Claim7.holds Tryz.pinned (.plain (OpenSpec.ofChange bookAgainSpec)) bookAgainCard

/-- THE SECOND FORM's CARD OF 'foreshorelaw12.BookUndone'. -/
def bookUndoneUptoCard : Claim7 := { stood := { row := bookUndoneUptoRow, standIns := [], harness := (true, "301489d14f5ad913449d231139cdaa53fcea27fe634b78eddaab55d50e447add"), looks := true }, kinds := [], alts := [], laidByText := true, laidKinds := [.data, .data, .data, .data, .sentinel, .sentinel, .pinned], laidTests := true, laidLooks := .later }
def BookUndoneUptoCardSaid : Prop := Claim7.holds Tryz.pinned (.plain (OpenSpec.upto bookUndoneSpec)) bookUndoneUptoCard

/-- THE SECOND FORM's CARD OF 'foreshorelaw12.BookAgain'. -/
def bookAgainUptoCard : Claim7 := { stood := { row := bookAgainUptoRow, standIns := [], harness := (true, "301489d14f5ad913449d231139cdaa53fcea27fe634b78eddaab55d50e447add"), looks := true }, kinds := [], alts := [], laidByText := true, laidKinds := [.data, .data, .data, .data, .sentinel, .sentinel, .pinned], laidTests := true, laidLooks := .later }
def BookAgainUptoCardSaid : Prop := Claim7.holds Tryz.pinned (.plain (OpenSpec.upto bookAgainSpec)) bookAgainUptoCard
end Rows
end Go.Proofs.YtecfofnchcbojaaGreatDoor
