/-
  DERIVED. GIVEN WITH THE SEED: THE CARDS: each row of YtpjbbpilgfihbaaGreatDoorRows.lean that lists a variable, with what it lists TIED to the program's text (the seventh form; the later family's looks); each row that meets fmt, with fmt's text TOLD by the authors' own Lean function (tested against real Go, not proved from fmt's source: count such statements apart). THE CARD IS WHAT COUNTS. Prove the row's statement (the work); the ties are given (YtpjbbpilgfihbaaGreatDoorTie.lean); close each card by the builder's one call (the guide's Derived/Test/ToyasCard.lean, 'card_holds'). Laid BY PROGRAM, IN A SANDBOX (cutbox-door.mjs). By AI agents, Wed Nov 11 2026. No macro, syntax, notation, axiom, sorry.
-/
import Derived.Test.YtpjbbpilgfihbaaGreatDoorRows
import GoSem.ClaimSeven
namespace Go.Proofs.YtpjbbpilgfihbaaGreatDoor
namespace Rows

/-- THE TIED CARD OF 'backkeep1.NumbersAreDense'. -/
def numbersAreDenseCard : Claim7 := { stood := { row := numbersAreDenseRow, standIns := [], harness := (true, "379bbfdc9ad9ae7712928e09a09529eddbc6ae5ec1f6600d38a3a7fb37555954"), looks := true }, kinds := [], alts := [], laidByText := true, laidKinds := [.data, .data, .data, .data, .sentinel, .sentinel, .pinned], laidTests := true, laidLooks := .later }
def NumbersAreDenseCardSaid : Prop := Claim7.holds Tryz.pinned (.plain (OpenSpec.ofChange numbersAreDenseSpec)) numbersAreDenseCard

/-- THE TIED CARD OF 'backkeep1.NamesGoBack'. -/
def namesGoBackCard : Claim7 := { stood := { row := namesGoBackRow, standIns := [], harness := (true, "379bbfdc9ad9ae7712928e09a09529eddbc6ae5ec1f6600d38a3a7fb37555954"), looks := true }, kinds := [], alts := [], laidByText := true, laidKinds := [.data, .data, .data, .data, .sentinel, .sentinel, .pinned], laidTests := true, laidLooks := .later }
def NamesGoBackCardSaid : Prop := Claim7.holds Tryz.pinned (.plain (OpenSpec.ofChange namesGoBackSpec)) namesGoBackCard

/-- THE TIED CARD OF 'backkeep1.SidesStay'. -/
def sidesStayCard : Claim7 := { stood := { row := sidesStayRow, standIns := [], harness := (true, "379bbfdc9ad9ae7712928e09a09529eddbc6ae5ec1f6600d38a3a7fb37555954"), looks := true }, kinds := [], alts := [], laidByText := true, laidKinds := [.data, .data, .data, .data, .sentinel, .sentinel, .pinned], laidTests := true, laidLooks := .later }
def SidesStayCardSaid : Prop := Claim7.holds Tryz.pinned (.plain (OpenSpec.ofChange sidesStaySpec)) sidesStayCard

/-- THE TIED CARD OF 'backkeep1.EighthsAddUp'. -/
def eighthsAddUpCard : Claim7 := { stood := { row := eighthsAddUpRow, standIns := [], harness := (true, "379bbfdc9ad9ae7712928e09a09529eddbc6ae5ec1f6600d38a3a7fb37555954"), looks := true }, kinds := [], alts := [], laidByText := true, laidKinds := [.data, .data, .data, .data, .sentinel, .sentinel, .pinned], laidTests := true, laidLooks := .later }
def EighthsAddUpCardSaid : Prop := Claim7.holds Tryz.pinned (.plain (OpenSpec.ofChange eighthsAddUpSpec)) eighthsAddUpCard

/-- THE SECOND FORM's CARD OF 'backkeep1.NumbersAreDense'. -/
def numbersAreDenseUptoCard : Claim7 := { stood := { row := numbersAreDenseUptoRow, standIns := [], harness := (true, "379bbfdc9ad9ae7712928e09a09529eddbc6ae5ec1f6600d38a3a7fb37555954"), looks := true }, kinds := [], alts := [], laidByText := true, laidKinds := [.data, .data, .data, .data, .sentinel, .sentinel, .pinned], laidTests := true, laidLooks := .later }
def NumbersAreDenseUptoCardSaid : Prop := Claim7.holds Tryz.pinned (.plain (OpenSpec.upto numbersAreDenseSpec)) numbersAreDenseUptoCard

/-- THE SECOND FORM's CARD OF 'backkeep1.NamesGoBack'. -/
def namesGoBackUptoCard : Claim7 := { stood := { row := namesGoBackUptoRow, standIns := [], harness := (true, "379bbfdc9ad9ae7712928e09a09529eddbc6ae5ec1f6600d38a3a7fb37555954"), looks := true }, kinds := [], alts := [], laidByText := true, laidKinds := [.data, .data, .data, .data, .sentinel, .sentinel, .pinned], laidTests := true, laidLooks := .later }
def NamesGoBackUptoCardSaid : Prop := Claim7.holds Tryz.pinned (.plain (OpenSpec.upto namesGoBackSpec)) namesGoBackUptoCard

/-- THE SECOND FORM's CARD OF 'backkeep1.SidesStay'. -/
def sidesStayUptoCard : Claim7 := { stood := { row := sidesStayUptoRow, standIns := [], harness := (true, "379bbfdc9ad9ae7712928e09a09529eddbc6ae5ec1f6600d38a3a7fb37555954"), looks := true }, kinds := [], alts := [], laidByText := true, laidKinds := [.data, .data, .data, .data, .sentinel, .sentinel, .pinned], laidTests := true, laidLooks := .later }
def SidesStayUptoCardSaid : Prop := Claim7.holds Tryz.pinned (.plain (OpenSpec.upto sidesStaySpec)) sidesStayUptoCard

/-- THE SECOND FORM's CARD OF 'backkeep1.EighthsAddUp'. -/
def eighthsAddUpUptoCard : Claim7 := { stood := { row := eighthsAddUpUptoRow, standIns := [], harness := (true, "379bbfdc9ad9ae7712928e09a09529eddbc6ae5ec1f6600d38a3a7fb37555954"), looks := true }, kinds := [], alts := [], laidByText := true, laidKinds := [.data, .data, .data, .data, .sentinel, .sentinel, .pinned], laidTests := true, laidLooks := .later }
def EighthsAddUpUptoCardSaid : Prop := Claim7.holds Tryz.pinned (.plain (OpenSpec.upto eighthsAddUpSpec)) eighthsAddUpUptoCard
end Rows
end Go.Proofs.YtpjbbpilgfihbaaGreatDoor
