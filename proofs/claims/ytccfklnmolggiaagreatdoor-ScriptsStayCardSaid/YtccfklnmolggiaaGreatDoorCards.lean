/-
  DERIVED. GIVEN WITH THE SEED: THE CARDS: each row of YtccfklnmolggiaaGreatDoorRows.lean that lists a variable, with what it lists TIED to the program's text (the seventh form; the later family's looks); each row that meets fmt, with fmt's text TOLD by the authors' own Lean function (tested against real Go, not proved from fmt's source: count such statements apart). THE CARD IS WHAT COUNTS. Prove the row's statement (the work); the ties are given (YtccfklnmolggiaaGreatDoorTie.lean); close each card by the builder's one call (the guide's Derived/Test/ToyasCard.lean, 'card_holds'). Laid BY PROGRAM, IN A SANDBOX (cutbox-door.mjs). By AI agents, Wed Nov 11 2026. No macro, syntax, notation, axiom, sorry.
-/
import Derived.Test.YtccfklnmolggiaaGreatDoorRows
import GoSem.ClaimSeven
namespace Go.Proofs.YtccfklnmolggiaaGreatDoor
namespace Rows

/-- THE TIED CARD OF 'backkeep1.ScriptsStay'. -/
def scriptsStayCard : Claim7 := { stood := { row := scriptsStayRow, standIns := [], harness := (true, "069ffbfa9105a6c31d5f953376c01d64431d7b1ad23c2a882b96bb0fd4198a84"), looks := true }, kinds := [], alts := [], laidByText := true, laidKinds := [.data, .data, .data, .data, .sentinel, .sentinel, .listed, .data, .pinned], laidTests := true, laidLooks := .later }
def ScriptsStayCardSaid : Prop := Claim7.holds Tryz.pinned (.plain (OpenSpec.ofChange scriptsStaySpec)) scriptsStayCard

/-- THE SECOND FORM's CARD OF 'backkeep1.ScriptsStay'. -/
def scriptsStayUptoCard : Claim7 := { stood := { row := scriptsStayUptoRow, standIns := [], harness := (true, "069ffbfa9105a6c31d5f953376c01d64431d7b1ad23c2a882b96bb0fd4198a84"), looks := true }, kinds := [], alts := [], laidByText := true, laidKinds := [.data, .data, .data, .data, .sentinel, .sentinel, .listed, .data, .pinned], laidTests := true, laidLooks := .later }
def ScriptsStayUptoCardSaid : Prop := Claim7.holds Tryz.pinned (.plain (OpenSpec.upto scriptsStaySpec)) scriptsStayUptoCard
end Rows
end Go.Proofs.YtccfklnmolggiaaGreatDoor
