/-
  DERIVED. GIVEN WITH THE SEED: THE CARDS: each row of YtelhnbcdablgoaaGreatDoorRows.lean that lists a variable, with what it lists TIED to the program's text (the seventh form; the later family's looks); each row that meets fmt, with fmt's text TOLD by the authors' own Lean function (tested against real Go, not proved from fmt's source: count such statements apart). THE CARD IS WHAT COUNTS. Prove the row's statement (the work); the ties are given (YtelhnbcdablgoaaGreatDoorTie.lean); close each card by the builder's one call (the guide's Derived/Test/ToyasCard.lean, 'card_holds'). Laid BY PROGRAM, IN A SANDBOX (cutbox-door.mjs). By AI agents, Wed Nov 11 2026. No macro, syntax, notation, axiom, sorry.
-/
import Derived.Test.YtelhnbcdablgoaaGreatDoorRows
import GoSem.ClaimSeven
namespace Go.Proofs.YtelhnbcdablgoaaGreatDoor
namespace Rows

/-- THE TIED CARD OF 'foreshorelaw12.BookAgain'. -/
def bookAgainCard : Claim7 := { stood := { row := bookAgainRow, standIns := [], harness := (true, "8bb552e5b2dcdfa5cdc9559dbcca3218c200c6867e0f458ba0eb6d7f3d260527"), looks := true }, kinds := [], alts := [], laidByText := true, laidKinds := [.data, .data, .data, .data, .sentinel, .sentinel, .pinned], laidTests := true, laidLooks := .later }
def BookAgainCardSaid : Prop := Claim7.holds Tryz.pinned (.plain (OpenSpec.ofChange bookAgainSpec)) bookAgainCard

/-- THE TIED CARD OF 'foreshorelaw12.BookWrites'. -/
def bookWritesCard : Claim7 := { stood := { row := bookWritesRow, standIns := [], harness := (true, "8bb552e5b2dcdfa5cdc9559dbcca3218c200c6867e0f458ba0eb6d7f3d260527"), looks := true }, kinds := [], alts := [], laidByText := true, laidKinds := [.data, .data, .data, .data, .sentinel, .sentinel, .pinned], laidTests := true, laidLooks := .later }
def BookWritesCardSaid : Prop := Claim7.holds Tryz.pinned (.plain (OpenSpec.ofChange bookWritesSpec)) bookWritesCard

/-- THE TIED CARD OF 'foreshorelaw12.BookNames'. -/
def bookNamesCard : Claim7 := { stood := { row := bookNamesRow, standIns := [], harness := (true, "8bb552e5b2dcdfa5cdc9559dbcca3218c200c6867e0f458ba0eb6d7f3d260527"), looks := true }, kinds := [], alts := [], laidByText := true, laidKinds := [.data, .data, .data, .data, .sentinel, .sentinel, .pinned], laidTests := true, laidLooks := .later }
def BookNamesCardSaid : Prop := Claim7.holds Tryz.pinned (.plain (OpenSpec.ofChange bookNamesSpec)) bookNamesCard

/-- THE TIED CARD OF 'foreshorelaw12.BookGoesOn'. -/
def bookGoesOnCard : Claim7 := { stood := { row := bookGoesOnRow, standIns := [], harness := (true, "8bb552e5b2dcdfa5cdc9559dbcca3218c200c6867e0f458ba0eb6d7f3d260527"), looks := true }, kinds := [], alts := [], laidByText := true, laidKinds := [.data, .data, .data, .data, .sentinel, .sentinel, .pinned], laidTests := true, laidLooks := .later }
def BookGoesOnCardSaid : Prop := Claim7.holds Tryz.pinned (.plain (OpenSpec.ofChange bookGoesOnSpec)) bookGoesOnCard

/-- THE SECOND FORM's CARD OF 'foreshorelaw12.BookAgain'. -/
def bookAgainUptoCard : Claim7 := { stood := { row := bookAgainUptoRow, standIns := [], harness := (true, "8bb552e5b2dcdfa5cdc9559dbcca3218c200c6867e0f458ba0eb6d7f3d260527"), looks := true }, kinds := [], alts := [], laidByText := true, laidKinds := [.data, .data, .data, .data, .sentinel, .sentinel, .pinned], laidTests := true, laidLooks := .later }
def BookAgainUptoCardSaid : Prop := Claim7.holds Tryz.pinned (.plain (OpenSpec.upto bookAgainSpec)) bookAgainUptoCard

/-- THE SECOND FORM's CARD OF 'foreshorelaw12.BookWrites'. -/
def bookWritesUptoCard : Claim7 := { stood := { row := bookWritesUptoRow, standIns := [], harness := (true, "8bb552e5b2dcdfa5cdc9559dbcca3218c200c6867e0f458ba0eb6d7f3d260527"), looks := true }, kinds := [], alts := [], laidByText := true, laidKinds := [.data, .data, .data, .data, .sentinel, .sentinel, .pinned], laidTests := true, laidLooks := .later }
def BookWritesUptoCardSaid : Prop := Claim7.holds Tryz.pinned (.plain (OpenSpec.upto bookWritesSpec)) bookWritesUptoCard

/-- THE SECOND FORM's CARD OF 'foreshorelaw12.BookNames'. -/
def bookNamesUptoCard : Claim7 := { stood := { row := bookNamesUptoRow, standIns := [], harness := (true, "8bb552e5b2dcdfa5cdc9559dbcca3218c200c6867e0f458ba0eb6d7f3d260527"), looks := true }, kinds := [], alts := [], laidByText := true, laidKinds := [.data, .data, .data, .data, .sentinel, .sentinel, .pinned], laidTests := true, laidLooks := .later }
def BookNamesUptoCardSaid : Prop := Claim7.holds Tryz.pinned (.plain (OpenSpec.upto bookNamesSpec)) bookNamesUptoCard

/-- THE SECOND FORM's CARD OF 'foreshorelaw12.BookGoesOn'. -/
def bookGoesOnUptoCard : Claim7 := { stood := { row := bookGoesOnUptoRow, standIns := [], harness := (true, "8bb552e5b2dcdfa5cdc9559dbcca3218c200c6867e0f458ba0eb6d7f3d260527"), looks := true }, kinds := [], alts := [], laidByText := true, laidKinds := [.data, .data, .data, .data, .sentinel, .sentinel, .pinned], laidTests := true, laidLooks := .later }
def BookGoesOnUptoCardSaid : Prop := Claim7.holds Tryz.pinned (.plain (OpenSpec.upto bookGoesOnSpec)) bookGoesOnUptoCard
end Rows
end Go.Proofs.YtelhnbcdablgoaaGreatDoor
