/-
  DERIVED. GIVEN WITH THE SEED: THE CARDS: each row of YtpjbbpilgfihbaaDoorRows.lean that lists a variable, with what it lists TIED to the program's text (the seventh form; the later family's looks); each row that meets fmt, with fmt's text TOLD by the authors' own Lean function (tested against real Go, not proved from fmt's source: count such statements apart). THE CARD IS WHAT COUNTS. Prove the row's statement (the work); the ties are given (YtpjbbpilgfihbaaDoorTie.lean); close each card by the builder's one call (the guide's Derived/Test/ToyasCard.lean, 'card_holds'). Laid BY PROGRAM, IN A SANDBOX (cutbox-door.mjs). By AI agents, Wed Nov 11 2026. No macro, syntax, notation, axiom, sorry.
-/
import Derived.Test.YtpjbbpilgfihbaaDoorRows
import GoSem.ClaimSeven
namespace Go.Proofs.YtpjbbpilgfihbaaDoor
namespace Rows

/-- THE TIED CARD OF 'backkeep1.EditsMakeTheOther'. -/
def editsMakeTheOtherCard : Claim7 := { stood := { row := editsMakeTheOtherRow, standIns := [], harness := (true, "f2223469900c7e5e8c3539d210d74e06fcb105856ce53caf71d0276083ad19c9"), looks := false }, kinds := [], alts := [], laidByText := true, laidKinds := [.data, .pinned], laidTests := true, laidLooks := .later }
def EditsMakeTheOtherCardSaid : Prop := Claim7.holds Tryd.pinned (.plain (OpenSpec.ofChange editsMakeTheOtherSpec)) editsMakeTheOtherCard

/-- THE TIED CARD OF 'backkeep1.MergesTurn'. -/
def mergesTurnCard : Claim7 := { stood := { row := mergesTurnRow, standIns := [], harness := (true, "f2223469900c7e5e8c3539d210d74e06fcb105856ce53caf71d0276083ad19c9"), looks := false }, kinds := [], alts := [], laidByText := true, laidKinds := [.data, .pinned], laidTests := true, laidLooks := .later }
def MergesTurnCardSaid : Prop := Claim7.holds Tryd.pinned (.plain (OpenSpec.ofChange mergesTurnSpec)) mergesTurnCard

/-- THE SECOND FORM's CARD OF 'backkeep1.EditsMakeTheOther'. -/
def editsMakeTheOtherUptoCard : Claim7 := { stood := { row := editsMakeTheOtherUptoRow, standIns := [], harness := (true, "f2223469900c7e5e8c3539d210d74e06fcb105856ce53caf71d0276083ad19c9"), looks := false }, kinds := [], alts := [], laidByText := true, laidKinds := [.data, .pinned], laidTests := true, laidLooks := .later }
def EditsMakeTheOtherUptoCardSaid : Prop := Claim7.holds Tryd.pinned (.plain (OpenSpec.upto editsMakeTheOtherSpec)) editsMakeTheOtherUptoCard

/-- THE SECOND FORM's CARD OF 'backkeep1.MergesTurn'. -/
def mergesTurnUptoCard : Claim7 := { stood := { row := mergesTurnUptoRow, standIns := [], harness := (true, "f2223469900c7e5e8c3539d210d74e06fcb105856ce53caf71d0276083ad19c9"), looks := false }, kinds := [], alts := [], laidByText := true, laidKinds := [.data, .pinned], laidTests := true, laidLooks := .later }
def MergesTurnUptoCardSaid : Prop := Claim7.holds Tryd.pinned (.plain (OpenSpec.upto mergesTurnSpec)) mergesTurnUptoCard
end Rows
end Go.Proofs.YtpjbbpilgfihbaaDoor
