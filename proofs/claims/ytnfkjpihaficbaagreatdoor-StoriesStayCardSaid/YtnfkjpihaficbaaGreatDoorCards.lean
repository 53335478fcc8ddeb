/-
  DERIVED. GIVEN WITH THE SEED: THE CARDS: each row of YtnfkjpihaficbaaGreatDoorRows.lean that lists a variable, with what it lists TIED to the program's text (the seventh form; the later family's looks); each row that meets fmt, with fmt's text TOLD by the authors' own Lean function (tested against real Go, not proved from fmt's source: count such statements apart). THE CARD IS WHAT COUNTS. Prove the row's statement (the work); the ties are given (YtnfkjpihaficbaaGreatDoorTie.lean); close each card by the builder's one call (the guide's Derived/Test/ToyasCard.lean, 'card_holds'). Laid BY PROGRAM, IN A SANDBOX (cutbox-door.mjs). By AI agents, Wed Nov 11 2026. No macro, syntax, notation, axiom, sorry.
-/
import Derived.Test.YtnfkjpihaficbaaGreatDoorRows
import GoSem.ClaimSeven
namespace Go.Proofs.YtnfkjpihaficbaaGreatDoor
namespace Rows

/-- THE TIED CARD OF 'backkeep1.HandsOutrankRules'. -/
def handsOutrankRulesCard : Claim7 := { stood := { row := handsOutrankRulesRow, standIns := [], harness := (true, "2b9d47ecf665012a012cca01f88d15b4260fee7dcae6a2e3c5741181bf7b5642"), looks := true }, kinds := [], alts := [], laidByText := true, laidKinds := [.data, .data, .data, .data, .sentinel, .sentinel, .pinned], laidTests := true, laidLooks := .later }
def HandsOutrankRulesCardSaid : Prop := Claim7.holds Tryz.pinned (.plain (OpenSpec.ofChange handsOutrankRulesSpec)) handsOutrankRulesCard

/-- THE TIED CARD OF 'backkeep1.LooksHangOnTheStory'. -/
def looksHangOnTheStoryCard : Claim7 := { stood := { row := looksHangOnTheStoryRow, standIns := [], harness := (true, "2b9d47ecf665012a012cca01f88d15b4260fee7dcae6a2e3c5741181bf7b5642"), looks := true }, kinds := [], alts := [], laidByText := true, laidKinds := [.data, .data, .data, .data, .sentinel, .sentinel, .listed, .data, .pinned], laidTests := true, laidLooks := .later }
def LooksHangOnTheStoryCardSaid : Prop := Claim7.holds Tryz.pinned (.plain (OpenSpec.ofChange looksHangOnTheStorySpec)) looksHangOnTheStoryCard

/-- THE TIED CARD OF 'backkeep1.ChangesTurn'. -/
def changesTurnCard : Claim7 := { stood := { row := changesTurnRow, standIns := [], harness := (true, "2b9d47ecf665012a012cca01f88d15b4260fee7dcae6a2e3c5741181bf7b5642"), looks := true }, kinds := [], alts := [], laidByText := true, laidKinds := [.data, .data, .data, .data, .sentinel, .sentinel, .listed, .data, .pinned], laidTests := true, laidLooks := .later }
def ChangesTurnCardSaid : Prop := Claim7.holds Tryz.pinned (.plain (OpenSpec.ofChange changesTurnSpec)) changesTurnCard

/-- THE TIED CARD OF 'backkeep1.StagesMakeLooks'. -/
def stagesMakeLooksCard : Claim7 := { stood := { row := stagesMakeLooksRow, standIns := [], harness := (true, "2b9d47ecf665012a012cca01f88d15b4260fee7dcae6a2e3c5741181bf7b5642"), looks := true }, kinds := [], alts := [], laidByText := true, laidKinds := [.data, .data, .data, .data, .sentinel, .sentinel, .listed, .data, .pinned], laidTests := true, laidLooks := .later }
def StagesMakeLooksCardSaid : Prop := Claim7.holds Tryz.pinned (.plain (OpenSpec.ofChange stagesMakeLooksSpec)) stagesMakeLooksCard

/-- THE TIED CARD OF 'backkeep1.StoriesStay'. -/
def storiesStayCard : Claim7 := { stood := { row := storiesStayRow, standIns := [], harness := (true, "2b9d47ecf665012a012cca01f88d15b4260fee7dcae6a2e3c5741181bf7b5642"), looks := true }, kinds := [], alts := [], laidByText := true, laidKinds := [.data, .data, .data, .data, .sentinel, .sentinel, .listed, .data, .pinned], laidTests := true, laidLooks := .later }
def StoriesStayCardSaid : Prop := Claim7.holds Tryz.pinned (.plain (OpenSpec.ofChange storiesStaySpec)) storiesStayCard

/-- THE SECOND FORM's CARD OF 'backkeep1.HandsOutrankRules'. -/
def handsOutrankRulesUptoCard : Claim7 := { stood := { row := handsOutrankRulesUptoRow, standIns := [], harness := (true, "2b9d47ecf665012a012cca01f88d15b4260fee7dcae6a2e3c5741181bf7b5642"), looks := true }, kinds := [], alts := [], laidByText := true, laidKinds := [.data, .data, .data, .data, .sentinel, .sentinel, .pinned], laidTests := true, laidLooks := .later }
def HandsOutrankRulesUptoCardSaid : Prop := Claim7.holds Tryz.pinned (.plain (OpenSpec.upto handsOutrankRulesSpec)) handsOutrankRulesUptoCard

/-- THE SECOND FORM's CARD OF 'backkeep1.LooksHangOnTheStory'. -/
def looksHangOnTheStoryUptoCard : Claim7 := { stood := { row := looksHangOnTheStoryUptoRow, standIns := [], harness := (true, "2b9d47ecf665012a012cca01f88d15b4260fee7dcae6a2e3c5741181bf7b5642"), looks := true }, kinds := [], alts := [], laidByText := true, laidKinds := [.data, .data, .data, .data, .sentinel, .sentinel, .listed, .data, .pinned], laidTests := true, laidLooks := .later }
def LooksHangOnTheStoryUptoCardSaid : Prop := Claim7.holds Tryz.pinned (.plain (OpenSpec.upto looksHangOnTheStorySpec)) looksHangOnTheStoryUptoCard

/-- THE SECOND FORM's CARD OF 'backkeep1.ChangesTurn'. -/
def changesTurnUptoCard : Claim7 := { stood := { row := changesTurnUptoRow, standIns := [], harness := (true, "2b9d47ecf665012a012cca01f88d15b4260fee7dcae6a2e3c5741181bf7b5642"), looks := true }, kinds := [], alts := [], laidByText := true, laidKinds := [.data, .data, .data, .data, .sentinel, .sentinel, .listed, .data, .pinned], laidTests := true, laidLooks := .later }
def ChangesTurnUptoCardSaid : Prop := Claim7.holds Tryz.pinned (.plain (OpenSpec.upto changesTurnSpec)) changesTurnUptoCard

/-- THE SECOND FORM's CARD OF 'backkeep1.StagesMakeLooks'. -/
def stagesMakeLooksUptoCard : Claim7 := { stood := { row := stagesMakeLooksUptoRow, standIns := [], harness := (true, "2b9d47ecf665012a012cca01f88d15b4260fee7dcae6a2e3c5741181bf7b5642"), looks := true }, kinds := [], alts := [], laidByText := true, laidKinds := [.data, .data, .data, .data, .sentinel, .sentinel, .listed, .data, .pinned], laidTests := true, laidLooks := .later }
def StagesMakeLooksUptoCardSaid : Prop := Claim7.holds Tryz.pinned (.plain (OpenSpec.upto stagesMakeLooksSpec)) stagesMakeLooksUptoCard

/-- THE SECOND FORM's CARD OF 'backkeep1.StoriesStay'. -/
def storiesStayUptoCard : Claim7 := { stood := { row := storiesStayUptoRow, standIns := [], harness := (true, "2b9d47ecf665012a012cca01f88d15b4260fee7dcae6a2e3c5741181bf7b5642"), looks := true }, kinds := [], alts := [], laidByText := true, laidKinds := [.data, .data, .data, .data, .sentinel, .sentinel, .listed, .data, .pinned], laidTests := true, laidLooks := .later }
def StoriesStayUptoCardSaid : Prop := Claim7.holds Tryz.pinned (.plain (OpenSpec.upto storiesStaySpec)) storiesStayUptoCard
end Rows
end Go.Proofs.YtnfkjpihaficbaaGreatDoor
