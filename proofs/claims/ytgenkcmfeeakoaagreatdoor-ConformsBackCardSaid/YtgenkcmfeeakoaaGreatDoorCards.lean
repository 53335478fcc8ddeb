/-
  DERIVED. GIVEN WITH THE SEED: THE CARDS: each row of YtgenkcmfeeakoaaGreatDoorRows.lean that lists a variable, with what it lists TIED to the program's text (the seventh form; the later family's looks); each row that meets fmt, with fmt's text TOLD by the authors' own Lean function (tested against real Go, not proved from fmt's source: count such statements apart). THE CARD IS WHAT COUNTS. Prove the row's statement (the work); the ties are given (YtgenkcmfeeakoaaGreatDoorTie.lean); close each card by the builder's one call (the guide's Derived/Test/ToyasCard.lean, 'card_holds'). Laid BY PROGRAM, IN A SANDBOX (cutbox-door.mjs). By AI agents, Wed Nov 11 2026. No macro, syntax, notation, axiom, sorry.
-/
import Derived.Test.YtgenkcmfeeakoaaGreatDoorRows
import GoSem.ClaimSeven
namespace Go.Proofs.YtgenkcmfeeakoaaGreatDoor
namespace Rows

/-- THE TIED CARD OF 'backkeep1.ConformsBack'. -/
def conformsBackCard : Claim7 := { stood := { row := conformsBackRow, standIns := [], harness := (true, "57446d8489cd6f330115fde76b53b9bf5ea218e112f59ade6c4a11b9d30abf5f"), looks := true }, kinds := [], alts := [], laidByText := true, laidKinds := [.data, .data, .data, .data, .sentinel, .sentinel, .listed, .data, .pinned], laidTests := true, laidLooks := .later }
def ConformsBackCardSaid : Prop := Claim7.holds Tryz.pinned (.plain (OpenSpec.ofChange conformsBackSpec)) conformsBackCard

/-- THE SECOND FORM's CARD OF 'backkeep1.ConformsBack'. -/
def conformsBackUptoCard : Claim7 := { stood := { row := conformsBackUptoRow, standIns := [], harness := (true, "57446d8489cd6f330115fde76b53b9bf5ea218e112f59ade6c4a11b9d30abf5f"), looks := true }, kinds := [], alts := [], laidByText := true, laidKinds := [.data, .data, .data, .data, .sentinel, .sentinel, .listed, .data, .pinned], laidTests := true, laidLooks := .later }
def ConformsBackUptoCardSaid : Prop := Claim7.holds Tryz.pinned (.plain (OpenSpec.upto conformsBackSpec)) conformsBackUptoCard
end Rows
end Go.Proofs.YtgenkcmfeeakoaaGreatDoor
