/-
  DERIVED. GIVEN WITH THE SEED: THE CARDS: each row of YtikbgjhajgjjdaaGreatDoorRows.lean that lists a variable, with what it lists TIED to the program's text (the seventh form; the later family's looks); each row that meets fmt, with fmt's text TOLD by the authors' own Lean function (tested against real Go, not proved from fmt's source: count such statements apart). THE CARD IS WHAT COUNTS. Prove the row's statement (the work); the ties are given (YtikbgjhajgjjdaaGreatDoorTie.lean); close each card by the builder's one call (the guide's Derived/Test/ToyasCard.lean, 'card_holds'). Laid BY PROGRAM, IN A SANDBOX (cutbox-door.mjs). By AI agents, Wed Nov 11 2026. No macro, syntax, notation, axiom, sorry.
-/
import Derived.Test.YtikbgjhajgjjdaaGreatDoorRows
import GoSem.ClaimSeven
namespace Go.Proofs.YtikbgjhajgjjdaaGreatDoor
namespace Rows

/-- THE TIED CARD OF 'backkeep1.PagesSayAll'. -/
def pagesSayAllCard : Claim7 := { stood := { row := pagesSayAllRow, standIns := [], harness := (true, "ee45bb053c6fe92759c2c8fd15d5d2738a02fc73ff27d0ce45c38f73a21922cb"), looks := true }, kinds := [], alts := [], laidByText := true, laidKinds := [.data, .data, .data, .data, .sentinel, .sentinel, .pinned], laidTests := true, laidLooks := .later }
def PagesSayAllCardSaid : Prop := Claim7.holds Tryz.pinned (.plain (OpenSpec.ofChange pagesSayAllSpec)) pagesSayAllCard

/-- THE SECOND FORM's CARD OF 'backkeep1.PagesSayAll'. -/
def pagesSayAllUptoCard : Claim7 := { stood := { row := pagesSayAllUptoRow, standIns := [], harness := (true, "ee45bb053c6fe92759c2c8fd15d5d2738a02fc73ff27d0ce45c38f73a21922cb"), looks := true }, kinds := [], alts := [], laidByText := true, laidKinds := [.data, .data, .data, .data, .sentinel, .sentinel, .pinned], laidTests := true, laidLooks := .later }
def PagesSayAllUptoCardSaid : Prop := Claim7.holds Tryz.pinned (.plain (OpenSpec.upto pagesSayAllSpec)) pagesSayAllUptoCard
end Rows
end Go.Proofs.YtikbgjhajgjjdaaGreatDoor
