/-
  DERIVED. GIVEN WITH THE SEED: THE CARDS: each row of YtmhjbljckkgeoaaGreatDoorRows.lean that lists a variable, with what it lists TIED to the program's text (the seventh form; the later family's looks); each row that meets fmt, with fmt's text TOLD by the authors' own Lean function (tested against real Go, not proved from fmt's source: count such statements apart). THE CARD IS WHAT COUNTS. Prove the row's statement (the work); the ties are given (YtmhjbljckkgeoaaGreatDoorTie.lean); close each card by the builder's one call (the guide's Derived/Test/ToyasCard.lean, 'card_holds'). Laid BY PROGRAM, IN A SANDBOX (cutbox-door.mjs). By AI agents, Wed Nov 11 2026. No macro, syntax, notation, axiom, sorry.
-/
import Derived.Test.YtmhjbljckkgeoaaGreatDoorRows
import GoSem.ClaimSeven
namespace Go.Proofs.YtmhjbljckkgeoaaGreatDoor
namespace Rows

/-- THE TIED CARD OF 'backkeep1.BindersCatchUp'. -/
def bindersCatchUpCard : Claim7 := { stood := { row := bindersCatchUpRow, standIns := [], harness := (true, "f995194736b251aba1f3d42280f984b5b47f2cbc09c9df7a1e2d4ab28060dd53"), looks := true }, kinds := [], alts := [], laidByText := true, laidKinds := [.data, .data, .data, .data, .sentinel, .sentinel, .listed, .data, .pinned], laidTests := true, laidLooks := .later }
def BindersCatchUpCardSaid : Prop := Claim7.holds Tryz.pinned (.plain (OpenSpec.ofChange bindersCatchUpSpec)) bindersCatchUpCard

/-- THE TIED CARD OF 'backkeep1.DraftsStay'. -/
def draftsStayCard : Claim7 := { stood := { row := draftsStayRow, standIns := [], harness := (true, "f995194736b251aba1f3d42280f984b5b47f2cbc09c9df7a1e2d4ab28060dd53"), looks := true }, kinds := [], alts := [], laidByText := true, laidKinds := [.data, .data, .data, .data, .sentinel, .sentinel, .listed, .data, .pinned], laidTests := true, laidLooks := .later }
def DraftsStayCardSaid : Prop := Claim7.holds Tryz.pinned (.plain (OpenSpec.ofChange draftsStaySpec)) draftsStayCard

/-- THE SECOND FORM's CARD OF 'backkeep1.BindersCatchUp'. -/
def bindersCatchUpUptoCard : Claim7 := { stood := { row := bindersCatchUpUptoRow, standIns := [], harness := (true, "f995194736b251aba1f3d42280f984b5b47f2cbc09c9df7a1e2d4ab28060dd53"), looks := true }, kinds := [], alts := [], laidByText := true, laidKinds := [.data, .data, .data, .data, .sentinel, .sentinel, .listed, .data, .pinned], laidTests := true, laidLooks := .later }
def BindersCatchUpUptoCardSaid : Prop := Claim7.holds Tryz.pinned (.plain (OpenSpec.upto bindersCatchUpSpec)) bindersCatchUpUptoCard

/-- THE SECOND FORM's CARD OF 'backkeep1.DraftsStay'. -/
def draftsStayUptoCard : Claim7 := { stood := { row := draftsStayUptoRow, standIns := [], harness := (true, "f995194736b251aba1f3d42280f984b5b47f2cbc09c9df7a1e2d4ab28060dd53"), looks := true }, kinds := [], alts := [], laidByText := true, laidKinds := [.data, .data, .data, .data, .sentinel, .sentinel, .listed, .data, .pinned], laidTests := true, laidLooks := .later }
def DraftsStayUptoCardSaid : Prop := Claim7.holds Tryz.pinned (.plain (OpenSpec.upto draftsStaySpec)) draftsStayUptoCard
end Rows
end Go.Proofs.YtmhjbljckkgeoaaGreatDoor
