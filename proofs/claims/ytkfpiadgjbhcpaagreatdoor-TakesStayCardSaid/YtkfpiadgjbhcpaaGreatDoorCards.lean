/-
  DERIVED. GIVEN WITH THE SEED: THE CARDS: each row of YtkfpiadgjbhcpaaGreatDoorRows.lean that lists a variable, with what it lists TIED to the program's text (the seventh form; the later family's looks); each row that meets fmt, with fmt's text TOLD by the authors' own Lean function (tested against real Go, not proved from fmt's source: count such statements apart). THE CARD IS WHAT COUNTS. Prove the row's statement (the work); the ties are given (YtkfpiadgjbhcpaaGreatDoorTie.lean); close each card by the builder's one call (the guide's Derived/Test/ToyasCard.lean, 'card_holds'). Laid BY PROGRAM, IN A SANDBOX (cutbox-door.mjs). By AI agents, Wed Nov 11 2026. No macro, syntax, notation, axiom, sorry.
-/
import Derived.Test.YtkfpiadgjbhcpaaGreatDoorRows
import GoSem.ClaimSeven
namespace Go.Proofs.YtkfpiadgjbhcpaaGreatDoor
namespace Rows

/-- THE TIED CARD OF 'backkeep1.AssembliesAreBest'. -/
def assembliesAreBestCard : Claim7 := { stood := { row := assembliesAreBestRow, standIns := [], harness := (true, "a2e92c17a3ccf04cc1bfd4c40113d92e9e9ee710657662605be8e69a00a9e684"), looks := true }, kinds := [], alts := [], laidByText := true, laidKinds := [.data, .data, .data, .data, .sentinel, .sentinel, .listed, .data, .pinned], laidTests := true, laidLooks := .later }
def AssembliesAreBestCardSaid : Prop := Claim7.holds Tryz.pinned (.plain (OpenSpec.ofChange assembliesAreBestSpec)) assembliesAreBestCard

/-- THE TIED CARD OF 'backkeep1.TakesStay'. -/
def takesStayCard : Claim7 := { stood := { row := takesStayRow, standIns := [], harness := (true, "a2e92c17a3ccf04cc1bfd4c40113d92e9e9ee710657662605be8e69a00a9e684"), looks := true }, kinds := [], alts := [], laidByText := true, laidKinds := [.data, .data, .data, .data, .sentinel, .sentinel, .listed, .data, .pinned], laidTests := true, laidLooks := .later }
def TakesStayCardSaid : Prop := Claim7.holds Tryz.pinned (.plain (OpenSpec.ofChange takesStaySpec)) takesStayCard

/-- THE TIED CARD OF 'backkeep1.EventsPlayTheSame'. -/
def eventsPlayTheSameCard : Claim7 := { stood := { row := eventsPlayTheSameRow, standIns := [], harness := (true, "a2e92c17a3ccf04cc1bfd4c40113d92e9e9ee710657662605be8e69a00a9e684"), looks := true }, kinds := [], alts := [], laidByText := true, laidKinds := [.data, .data, .data, .data, .sentinel, .sentinel, .listed, .data, .pinned], laidTests := true, laidLooks := .later }
def EventsPlayTheSameCardSaid : Prop := Claim7.holds Tryz.pinned (.plain (OpenSpec.ofChange eventsPlayTheSameSpec)) eventsPlayTheSameCard

/-- THE TIED CARD OF 'backkeep1.ConformsBack'. -/
def conformsBackCard : Claim7 := { stood := { row := conformsBackRow, standIns := [], harness := (true, "a2e92c17a3ccf04cc1bfd4c40113d92e9e9ee710657662605be8e69a00a9e684"), looks := true }, kinds := [], alts := [], laidByText := true, laidKinds := [.data, .data, .data, .data, .sentinel, .sentinel, .listed, .data, .pinned], laidTests := true, laidLooks := .later }
def ConformsBackCardSaid : Prop := Claim7.holds Tryz.pinned (.plain (OpenSpec.ofChange conformsBackSpec)) conformsBackCard

/-- THE SECOND FORM's CARD OF 'backkeep1.AssembliesAreBest'. -/
def assembliesAreBestUptoCard : Claim7 := { stood := { row := assembliesAreBestUptoRow, standIns := [], harness := (true, "a2e92c17a3ccf04cc1bfd4c40113d92e9e9ee710657662605be8e69a00a9e684"), looks := true }, kinds := [], alts := [], laidByText := true, laidKinds := [.data, .data, .data, .data, .sentinel, .sentinel, .listed, .data, .pinned], laidTests := true, laidLooks := .later }
def AssembliesAreBestUptoCardSaid : Prop := Claim7.holds Tryz.pinned (.plain (OpenSpec.upto assembliesAreBestSpec)) assembliesAreBestUptoCard

/-- THE SECOND FORM's CARD OF 'backkeep1.TakesStay'. -/
def takesStayUptoCard : Claim7 := { stood := { row := takesStayUptoRow, standIns := [], harness := (true, "a2e92c17a3ccf04cc1bfd4c40113d92e9e9ee710657662605be8e69a00a9e684"), looks := true }, kinds := [], alts := [], laidByText := true, laidKinds := [.data, .data, .data, .data, .sentinel, .sentinel, .listed, .data, .pinned], laidTests := true, laidLooks := .later }
def TakesStayUptoCardSaid : Prop := Claim7.holds Tryz.pinned (.plain (OpenSpec.upto takesStaySpec)) takesStayUptoCard

/-- THE SECOND FORM's CARD OF 'backkeep1.EventsPlayTheSame'. -/
def eventsPlayTheSameUptoCard : Claim7 := { stood := { row := eventsPlayTheSameUptoRow, standIns := [], harness := (true, "a2e92c17a3ccf04cc1bfd4c40113d92e9e9ee710657662605be8e69a00a9e684"), looks := true }, kinds := [], alts := [], laidByText := true, laidKinds := [.data, .data, .data, .data, .sentinel, .sentinel, .listed, .data, .pinned], laidTests := true, laidLooks := .later }
def EventsPlayTheSameUptoCardSaid : Prop := Claim7.holds Tryz.pinned (.plain (OpenSpec.upto eventsPlayTheSameSpec)) eventsPlayTheSameUptoCard

/-- THE SECOND FORM's CARD OF 'backkeep1.ConformsBack'. -/
def conformsBackUptoCard : Claim7 := { stood := { row := conformsBackUptoRow, standIns := [], harness := (true, "a2e92c17a3ccf04cc1bfd4c40113d92e9e9ee710657662605be8e69a00a9e684"), looks := true }, kinds := [], alts := [], laidByText := true, laidKinds := [.data, .data, .data, .data, .sentinel, .sentinel, .listed, .data, .pinned], laidTests := true, laidLooks := .later }
def ConformsBackUptoCardSaid : Prop := Claim7.holds Tryz.pinned (.plain (OpenSpec.upto conformsBackSpec)) conformsBackUptoCard
end Rows
end Go.Proofs.YtkfpiadgjbhcpaaGreatDoor
