/-
  DERIVED. GIVEN WITH THE SEED: THE CARDS: each row of YtkomcdohejibmaaGreatDoorRows.lean that lists a variable, with what it lists TIED to the program's text (the seventh form; the later family's looks); each row that meets fmt, with fmt's text TOLD by the authors' own Lean function (tested against real Go, not proved from fmt's source: count such statements apart). THE CARD IS WHAT COUNTS. Prove the row's statement (the work); the ties are given (YtkomcdohejibmaaGreatDoorTie.lean); close each card by the builder's one call (the guide's Derived/Test/ToyasCard.lean, 'card_holds'). Laid BY PROGRAM, IN A SANDBOX (cutbox-door.mjs). By AI agents, Wed Nov 11 2026. No macro, syntax, notation, axiom, sorry.
-/
import Derived.Test.YtkomcdohejibmaaGreatDoorRows
import GoSem.ClaimSeven
namespace Go.Proofs.YtkomcdohejibmaaGreatDoor
namespace Rows

/-- THE TIED CARD OF 'backkeep1.DeedsStay'. -/
def deedsStayCard : Claim7 := { stood := { row := deedsStayRow, standIns := [], harness := (true, "a679d57bd21e864675235bd3203114a0adb5748a950b5eb728df2a58d3a3508c"), looks := false }, kinds := [], alts := [], laidByText := true, laidKinds := [.data, .pinned], laidTests := true, laidLooks := .later }
def DeedsStayCardSaid : Prop := Claim7.holds Tryz.pinned (.plain (OpenSpec.ofChange deedsStaySpec)) deedsStayCard

/-- THE TIED CARD OF 'backkeep1.DeedsInAnyOrder'. -/
def deedsInAnyOrderCard : Claim7 := { stood := { row := deedsInAnyOrderRow, standIns := [], harness := (true, "a679d57bd21e864675235bd3203114a0adb5748a950b5eb728df2a58d3a3508c"), looks := false }, kinds := [], alts := [], laidByText := true, laidKinds := [.data, .pinned], laidTests := true, laidLooks := .later }
def DeedsInAnyOrderCardSaid : Prop := Claim7.holds Tryz.pinned (.plain (OpenSpec.ofChange deedsInAnyOrderSpec)) deedsInAnyOrderCard

/-- THE TIED CARD OF 'backkeep1.MailMakesNobodyLate'. -/
def mailMakesNobodyLateCard : Claim7 := { stood := { row := mailMakesNobodyLateRow, standIns := [], harness := (true, "a679d57bd21e864675235bd3203114a0adb5748a950b5eb728df2a58d3a3508c"), looks := false }, kinds := [], alts := [], laidByText := true, laidKinds := [.data, .pinned], laidTests := true, laidLooks := .later }
def MailMakesNobodyLateCardSaid : Prop := Claim7.holds Tryz.pinned (.plain (OpenSpec.ofChange mailMakesNobodyLateSpec)) mailMakesNobodyLateCard

/-- THE TIED CARD OF 'backkeep1.DeedsByDifferences'. -/
def deedsByDifferencesCard : Claim7 := { stood := { row := deedsByDifferencesRow, standIns := [], harness := (true, "a679d57bd21e864675235bd3203114a0adb5748a950b5eb728df2a58d3a3508c"), looks := false }, kinds := [], alts := [], laidByText := true, laidKinds := [.data, .pinned], laidTests := true, laidLooks := .later }
def DeedsByDifferencesCardSaid : Prop := Claim7.holds Tryz.pinned (.plain (OpenSpec.ofChange deedsByDifferencesSpec)) deedsByDifferencesCard

/-- THE TIED CARD OF 'backkeep1.MendsSettle'. -/
def mendsSettleCard : Claim7 := { stood := { row := mendsSettleRow, standIns := [], harness := (true, "a679d57bd21e864675235bd3203114a0adb5748a950b5eb728df2a58d3a3508c"), looks := false }, kinds := [], alts := [], laidByText := true, laidKinds := [.data, .pinned], laidTests := true, laidLooks := .later }
def MendsSettleCardSaid : Prop := Claim7.holds Tryz.pinned (.plain (OpenSpec.ofChange mendsSettleSpec)) mendsSettleCard

/-- THE SECOND FORM's CARD OF 'backkeep1.DeedsStay'. -/
def deedsStayUptoCard : Claim7 := { stood := { row := deedsStayUptoRow, standIns := [], harness := (true, "a679d57bd21e864675235bd3203114a0adb5748a950b5eb728df2a58d3a3508c"), looks := false }, kinds := [], alts := [], laidByText := true, laidKinds := [.data, .pinned], laidTests := true, laidLooks := .later }
def DeedsStayUptoCardSaid : Prop := Claim7.holds Tryz.pinned (.plain (OpenSpec.upto deedsStaySpec)) deedsStayUptoCard

/-- THE SECOND FORM's CARD OF 'backkeep1.DeedsInAnyOrder'. -/
def deedsInAnyOrderUptoCard : Claim7 := { stood := { row := deedsInAnyOrderUptoRow, standIns := [], harness := (true, "a679d57bd21e864675235bd3203114a0adb5748a950b5eb728df2a58d3a3508c"), looks := false }, kinds := [], alts := [], laidByText := true, laidKinds := [.data, .pinned], laidTests := true, laidLooks := .later }
def DeedsInAnyOrderUptoCardSaid : Prop := Claim7.holds Tryz.pinned (.plain (OpenSpec.upto deedsInAnyOrderSpec)) deedsInAnyOrderUptoCard

/-- THE SECOND FORM's CARD OF 'backkeep1.MailMakesNobodyLate'. -/
def mailMakesNobodyLateUptoCard : Claim7 := { stood := { row := mailMakesNobodyLateUptoRow, standIns := [], harness := (true, "a679d57bd21e864675235bd3203114a0adb5748a950b5eb728df2a58d3a3508c"), looks := false }, kinds := [], alts := [], laidByText := true, laidKinds := [.data, .pinned], laidTests := true, laidLooks := .later }
def MailMakesNobodyLateUptoCardSaid : Prop := Claim7.holds Tryz.pinned (.plain (OpenSpec.upto mailMakesNobodyLateSpec)) mailMakesNobodyLateUptoCard

/-- THE SECOND FORM's CARD OF 'backkeep1.DeedsByDifferences'. -/
def deedsByDifferencesUptoCard : Claim7 := { stood := { row := deedsByDifferencesUptoRow, standIns := [], harness := (true, "a679d57bd21e864675235bd3203114a0adb5748a950b5eb728df2a58d3a3508c"), looks := false }, kinds := [], alts := [], laidByText := true, laidKinds := [.data, .pinned], laidTests := true, laidLooks := .later }
def DeedsByDifferencesUptoCardSaid : Prop := Claim7.holds Tryz.pinned (.plain (OpenSpec.upto deedsByDifferencesSpec)) deedsByDifferencesUptoCard

/-- THE SECOND FORM's CARD OF 'backkeep1.MendsSettle'. -/
def mendsSettleUptoCard : Claim7 := { stood := { row := mendsSettleUptoRow, standIns := [], harness := (true, "a679d57bd21e864675235bd3203114a0adb5748a950b5eb728df2a58d3a3508c"), looks := false }, kinds := [], alts := [], laidByText := true, laidKinds := [.data, .pinned], laidTests := true, laidLooks := .later }
def MendsSettleUptoCardSaid : Prop := Claim7.holds Tryz.pinned (.plain (OpenSpec.upto mendsSettleSpec)) mendsSettleUptoCard
end Rows
end Go.Proofs.YtkomcdohejibmaaGreatDoor
