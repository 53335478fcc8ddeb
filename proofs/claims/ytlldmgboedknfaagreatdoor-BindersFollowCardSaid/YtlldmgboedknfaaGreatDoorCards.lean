/-
  DERIVED. GIVEN WITH THE SEED: THE CARDS: each row of YtlldmgboedknfaaGreatDoorRows.lean that lists a variable, with what it lists TIED to the program's text (the seventh form; the later family's looks); each row that meets fmt, with fmt's text TOLD by the authors' own Lean function (tested against real Go, not proved from fmt's source: count such statements apart). THE CARD IS WHAT COUNTS. Prove the row's statement (the work); the ties are given (YtlldmgboedknfaaGreatDoorTie.lean); close each card by the builder's one call (the guide's Derived/Test/ToyasCard.lean, 'card_holds'). Laid BY PROGRAM, IN A SANDBOX (cutbox-door.mjs). By AI agents, Wed Nov 11 2026. No macro, syntax, notation, axiom, sorry.
-/
import Derived.Test.YtlldmgboedknfaaGreatDoorRows
import GoSem.ClaimSeven
namespace Go.Proofs.YtlldmgboedknfaaGreatDoor
namespace Rows

/-- THE TIED CARD OF 'backkeep1.BindersSayAll'. -/
def bindersSayAllCard : Claim7 := { stood := { row := bindersSayAllRow, standIns := [], harness := (true, "e96dbd206680c712d3ebbb1f0dcbf846fd96396c2d1e5dcbc25f7bd643c529bb"), looks := true }, kinds := [], alts := [], laidByText := true, laidKinds := [.data, .data, .data, .data, .sentinel, .sentinel, .pinned], laidTests := true, laidLooks := .later }
def BindersSayAllCardSaid : Prop := Claim7.holds Tryz.pinned (.plain (OpenSpec.ofChange bindersSayAllSpec)) bindersSayAllCard

/-- THE TIED CARD OF 'backkeep1.BindersFollow'. -/
def bindersFollowCard : Claim7 := { stood := { row := bindersFollowRow, standIns := [], harness := (true, "e96dbd206680c712d3ebbb1f0dcbf846fd96396c2d1e5dcbc25f7bd643c529bb"), looks := true }, kinds := [], alts := [], laidByText := true, laidKinds := [.data, .data, .data, .data, .sentinel, .sentinel, .pinned], laidTests := true, laidLooks := .later }
def BindersFollowCardSaid : Prop := Claim7.holds Tryz.pinned (.plain (OpenSpec.ofChange bindersFollowSpec)) bindersFollowCard

/-- THE SECOND FORM's CARD OF 'backkeep1.BindersSayAll'. -/
def bindersSayAllUptoCard : Claim7 := { stood := { row := bindersSayAllUptoRow, standIns := [], harness := (true, "e96dbd206680c712d3ebbb1f0dcbf846fd96396c2d1e5dcbc25f7bd643c529bb"), looks := true }, kinds := [], alts := [], laidByText := true, laidKinds := [.data, .data, .data, .data, .sentinel, .sentinel, .pinned], laidTests := true, laidLooks := .later }
def BindersSayAllUptoCardSaid : Prop := Claim7.holds Tryz.pinned (.plain (OpenSpec.upto bindersSayAllSpec)) bindersSayAllUptoCard

/-- THE SECOND FORM's CARD OF 'backkeep1.BindersFollow'. -/
def bindersFollowUptoCard : Claim7 := { stood := { row := bindersFollowUptoRow, standIns := [], harness := (true, "e96dbd206680c712d3ebbb1f0dcbf846fd96396c2d1e5dcbc25f7bd643c529bb"), looks := true }, kinds := [], alts := [], laidByText := true, laidKinds := [.data, .data, .data, .data, .sentinel, .sentinel, .pinned], laidTests := true, laidLooks := .later }
def BindersFollowUptoCardSaid : Prop := Claim7.holds Tryz.pinned (.plain (OpenSpec.upto bindersFollowSpec)) bindersFollowUptoCard
end Rows
end Go.Proofs.YtlldmgboedknfaaGreatDoor
