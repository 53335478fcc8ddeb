/-
  DERIVED. GIVEN WITH THE SEED: THE CARDS: each row of YtooohdocabpblaaGreatDoorRows.lean that lists a variable, with what it lists TIED to the program's text (the seventh form; the later family's looks); each row that meets fmt, with fmt's text TOLD by the authors' own Lean function (tested against real Go, not proved from fmt's source: count such statements apart). THE CARD IS WHAT COUNTS. Prove the row's statement (the work); the ties are given (YtooohdocabpblaaGreatDoorTie.lean); close each card by the builder's one call (the guide's Derived/Test/ToyasCard.lean, 'card_holds'). Laid BY PROGRAM, IN A SANDBOX (cutbox-door.mjs). By AI agents, Wed Nov 11 2026. No macro, syntax, notation, axiom, sorry.
-/
import Derived.Test.YtooohdocabpblaaGreatDoorRows
import GoSem.ClaimSeven
namespace Go.Proofs.YtooohdocabpblaaGreatDoor
namespace Rows

/-- THE TIED CARD OF 'backtop.HeldPeople'. -/
def heldPeopleCard : Claim7 := { stood := { row := heldPeopleRow, standIns := [], harness := (true, "7de8aded394e14bea71efc00e96ab6a8e34dbe7df4fc582b38ca4b282d78530d"), looks := true }, kinds := [], alts := [], laidByText := true, laidKinds := [.data, .data, .data, .data, .sentinel, .sentinel, .widerDeep, .widerDeep, .pinned], laidTests := true, laidLooks := .later }
def HeldPeopleCardSaid : Prop := Claim7.holds Tryz.pinned (.plain (OpenSpec.ofChange heldPeopleSpec)) heldPeopleCard

/-- THE SECOND FORM's CARD OF 'backtop.HeldPeople'. -/
def heldPeopleUptoCard : Claim7 := { stood := { row := heldPeopleUptoRow, standIns := [], harness := (true, "7de8aded394e14bea71efc00e96ab6a8e34dbe7df4fc582b38ca4b282d78530d"), looks := true }, kinds := [], alts := [], laidByText := true, laidKinds := [.data, .data, .data, .data, .sentinel, .sentinel, .widerDeep, .widerDeep, .pinned], laidTests := true, laidLooks := .later }
def HeldPeopleUptoCardSaid : Prop := Claim7.holds Tryz.pinned (.plain (OpenSpec.upto heldPeopleSpec)) heldPeopleUptoCard
end Rows
end Go.Proofs.YtooohdocabpblaaGreatDoor
