/-
  DERIVED. GIVEN WITH THE SEED: THE CARDS: each row of YtnehccnhabcdoaaGreatDoorRows.lean that lists a variable, with what it lists TIED to the program's text (the seventh form; the later family's looks); each row that meets fmt, with fmt's text TOLD by the authors' own Lean function (tested against real Go, not proved from fmt's source: count such statements apart). THE CARD IS WHAT COUNTS. Prove the row's statement (the work); the ties are given (YtnehccnhabcdoaaGreatDoorTie.lean); close each card by the builder's one call (the guide's Derived/Test/ToyasCard.lean, 'card_holds'). Laid BY PROGRAM, IN A SANDBOX (cutbox-door.mjs). By AI agents, Wed Nov 11 2026. No macro, syntax, notation, axiom, sorry.
-/
import Derived.Test.YtnehccnhabcdoaaGreatDoorRows
import GoSem.ClaimSeven
namespace Go.Proofs.YtnehccnhabcdoaaGreatDoor
namespace Rows

/-- THE TIED CARD OF 'copybooklaw14.ShelfApart'. -/
def shelfApartCard : Claim7 := { stood := { row := shelfApartRow, standIns := [], harness := (true, "4f114a9df134b00fe83d8199971b6e273ccf426cc4153f7c68f419c64011d431"), looks := true }, kinds := [], alts := [], laidByText := true, laidKinds := [.data], laidTests := true, laidLooks := .later }
def ShelfApartCardSaid : Prop := Claim7.holds Tryz.pinned (.plain (OpenSpec.ofChange shelfApartSpec)) shelfApartCard

/-- THE SECOND FORM's CARD OF 'copybooklaw14.ShelfApart'. -/
def shelfApartUptoCard : Claim7 := { stood := { row := shelfApartUptoRow, standIns := [], harness := (true, "4f114a9df134b00fe83d8199971b6e273ccf426cc4153f7c68f419c64011d431"), looks := true }, kinds := [], alts := [], laidByText := true, laidKinds := [.data], laidTests := true, laidLooks := .later }
def ShelfApartUptoCardSaid : Prop := Claim7.holds Tryz.pinned (.plain (OpenSpec.upto shelfApartSpec)) shelfApartUptoCard
end Rows
end Go.Proofs.YtnehccnhabcdoaaGreatDoor
