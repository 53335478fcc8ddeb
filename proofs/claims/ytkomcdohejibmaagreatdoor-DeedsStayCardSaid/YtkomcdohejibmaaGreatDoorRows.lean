/-
  NARROWER THAN 'FOR EVERY INPUT', by the rows' own cells (each row's printed sentence says how): DeedsStay: laid · DeedsInAnyOrder: laid · MailMakesNobodyLate: laid · DeedsByDifferences: laid · MendsSettle: laid.
  DERIVED. THE GIVEN ROWS OF THIS SEAT. 5 by the template 'for every input the law returns true; each argument reads behind the call as it read before'; 0 by the template 'total and deterministic' (their statements: YtkomcdohejibmaaGreatDoorTotals.lean).
  GIVEN WITH THE SEED: the statements are not yours to turn. If you find one false, say at which input.
  Laid BY PROGRAM, IN A SANDBOX (cutbox-rows.mjs): the forced cells as the released guide's own fill.sh prints them over the translation 71aa36a7008e2dd9… (all of the seat's roots in one cut). By AI agents, Wed Nov 11 2026. No macro, syntax, notation, axiom, sorry.
-/
import Derived.Test.YtkomcdohejibmaaGreatDoorChecked
import GoSem.PinnedTables
import GoSem.Claim
import GoSem.ClaimJoined
import GoSem.ClaimMapViews
import Derived.JoinedTies
import Derived.KernelRfl
namespace Go.Proofs.YtkomcdohejibmaaGreatDoor
/- THE CELL 'sum', in the pinned program and in every row, IS THE sha256 OF THE DUMP (.gsa) THAT YtkomcdohejibmaaGreatDoorProg.lean LOADS. Nothing in Lean hashes anything: it is a label: what it is worth is what the hold of that sum in a sandbox is worth. -/
noncomputable def Tryz.pinned : Pinned := { name := "ytkomcdohejibmaagreatdoor", sum := "71aa36a7008e2dd9d2cd65c7464e853ebd757946424f5d70d323c1beac994e27", checked := Tryz.checked }
namespace Rows
def none {H : Type} : Left H := { results := [], args := [] }

/- WHAT THE LISTED PACKAGE-LEVEL VARIABLES READ AS WHEN THE CALL BEGINS. Each datum BY PROGRAM (the guide's laid-datum.mjs) off the statement by which the dump's own 'gosem.cut.vars' lays the variable. In a bare row this is a premise. The card (YtkomcdohejibmaaGreatDoorCards.lean) ties it to the program's text. -/
def laid_unicode_utf8_acceptRanges {H : Type} : DataW H := .agg [.agg [.lit (.int .u8 128), .lit (.int .u8 191)], .agg [.lit (.int .u8 160), .lit (.int .u8 191)], .agg [.lit (.int .u8 128), .lit (.int .u8 159)], .agg [.lit (.int .u8 144), .lit (.int .u8 191)], .agg [.lit (.int .u8 128), .lit (.int .u8 143)], .agg [.lit (.int .u8 0), .lit (.int .u8 0)], .agg [.lit (.int .u8 0), .lit (.int .u8 0)], .agg [.lit (.int .u8 0), .lit (.int .u8 0)], .agg [.lit (.int .u8 0), .lit (.int .u8 0)], .agg [.lit (.int .u8 0), .lit (.int .u8 0)], .agg [.lit (.int .u8 0), .lit (.int .u8 0)], .agg [.lit (.int .u8 0), .lit (.int .u8 0)], .agg [.lit (.int .u8 0), .lit (.int .u8 0)], .agg [.lit (.int .u8 0), .lit (.int .u8 0)], .agg [.lit (.int .u8 0), .lit (.int .u8 0)], .agg [.lit (.int .u8 0), .lit (.int .u8 0)]]
/-- One of Go's own tables, pinned by name: the form's constant. -/
def laid_unicode_utf8_first : DataW Unit := Go.Pinned.utf8First

/-- 'backkeep1.DeedsStay': WHATEVER THE INPUT: true; the input reads as it did. -/
def deedsStaySpec : ChangeSpec := { name := "deedsStay", fn := fun _ => fun
  | [d] => { results := [.lit (.bool true)], args := [d] }
  | _ => none }
def deedsStayRow : OpenClaim := { program := "ytkomcdohejibmaagreatdoor", sum := "71aa36a7008e2dd9d2cd65c7464e853ebd757946424f5d70d323c1beac994e27", func := "backlot/backkeep1.DeedsStay", spec := "deedsStay", inPlace := ["internal/bytealg.IndexByteString", "internal/bytealg.IndexString", "internal/bytealg.abigen_runtime_cmpstring", "internal/bytealg.CountString", "internal/abi.NoEscape", "internal/bytealg.MakeNoZero"], unfollowed := true, recurses := true, named := ["unicode/utf8.first", "unicode/utf8.acceptRanges", "internal/bytealg.MaxLen"], plainKeys := false, apart := false, laid := [("unicode/utf8.acceptRanges", laid_unicode_utf8_acceptRanges), ("unicode/utf8.first", laid_unicode_utf8_first)] }
def DeedsStaySaid : Prop := deedsStayRow.holds Tryz.pinned (OpenSpec.ofChange deedsStaySpec)

/-- ITS FALSE NEIGHBOUR: 'it returns false'. Refute it at one input. -/
def deedsStayWrong : ChangeSpec := { name := "deedsStay", fn := fun _ => fun
  | [d] => { results := [.lit (.bool false)], args := [d] }
  | _ => none }
def DeedsStayWrongFalsely : Prop := deedsStayRow.holds Tryz.pinned (OpenSpec.ofChange deedsStayWrong)

/-- 'backkeep1.DeedsInAnyOrder': WHATEVER THE INPUT: true; the input reads as it did. -/
def deedsInAnyOrderSpec : ChangeSpec := { name := "deedsInAnyOrder", fn := fun _ => fun
  | [d] => { results := [.lit (.bool true)], args := [d] }
  | _ => none }
def deedsInAnyOrderRow : OpenClaim := { program := "ytkomcdohejibmaagreatdoor", sum := "71aa36a7008e2dd9d2cd65c7464e853ebd757946424f5d70d323c1beac994e27", func := "backlot/backkeep1.DeedsInAnyOrder", spec := "deedsInAnyOrder", inPlace := ["internal/bytealg.IndexByteString", "internal/bytealg.IndexString", "internal/bytealg.abigen_runtime_cmpstring", "internal/bytealg.CountString", "internal/abi.NoEscape", "internal/bytealg.MakeNoZero"], unfollowed := true, recurses := true, named := ["unicode/utf8.first", "unicode/utf8.acceptRanges", "internal/bytealg.MaxLen"], plainKeys := false, apart := false, laid := [("unicode/utf8.acceptRanges", laid_unicode_utf8_acceptRanges), ("unicode/utf8.first", laid_unicode_utf8_first)] }
def DeedsInAnyOrderSaid : Prop := deedsInAnyOrderRow.holds Tryz.pinned (OpenSpec.ofChange deedsInAnyOrderSpec)

/-- ITS FALSE NEIGHBOUR: 'it returns false'. Refute it at one input. -/
def deedsInAnyOrderWrong : ChangeSpec := { name := "deedsInAnyOrder", fn := fun _ => fun
  | [d] => { results := [.lit (.bool false)], args := [d] }
  | _ => none }
def DeedsInAnyOrderWrongFalsely : Prop := deedsInAnyOrderRow.holds Tryz.pinned (OpenSpec.ofChange deedsInAnyOrderWrong)

/-- 'backkeep1.MailMakesNobodyLate': WHATEVER THE INPUT: true; the input reads as it did. -/
def mailMakesNobodyLateSpec : ChangeSpec := { name := "mailMakesNobodyLate", fn := fun _ => fun
  | [d] => { results := [.lit (.bool true)], args := [d] }
  | _ => none }
def mailMakesNobodyLateRow : OpenClaim := { program := "ytkomcdohejibmaagreatdoor", sum := "71aa36a7008e2dd9d2cd65c7464e853ebd757946424f5d70d323c1beac994e27", func := "backlot/backkeep1.MailMakesNobodyLate", spec := "mailMakesNobodyLate", inPlace := ["internal/bytealg.IndexByteString", "internal/bytealg.IndexString", "internal/bytealg.abigen_runtime_cmpstring", "internal/bytealg.CountString", "internal/abi.NoEscape", "internal/bytealg.MakeNoZero"], unfollowed := true, recurses := true, named := ["unicode/utf8.first", "unicode/utf8.acceptRanges", "internal/bytealg.MaxLen"], plainKeys := false, apart := false, laid := [("unicode/utf8.acceptRanges", laid_unicode_utf8_acceptRanges), ("unicode/utf8.first", laid_unicode_utf8_first)] }
def MailMakesNobodyLateSaid : Prop := mailMakesNobodyLateRow.holds Tryz.pinned (OpenSpec.ofChange mailMakesNobodyLateSpec)

/-- ITS FALSE NEIGHBOUR: 'it returns false'. Refute it at one input. -/
def mailMakesNobodyLateWrong : ChangeSpec := { name := "mailMakesNobodyLate", fn := fun _ => fun
  | [d] => { results := [.lit (.bool false)], args := [d] }
  | _ => none }
def MailMakesNobodyLateWrongFalsely : Prop := mailMakesNobodyLateRow.holds Tryz.pinned (OpenSpec.ofChange mailMakesNobodyLateWrong)

/-- 'backkeep1.DeedsByDifferences': WHATEVER THE INPUT: true; the input reads as it did. -/
def deedsByDifferencesSpec : ChangeSpec := { name := "deedsByDifferences", fn := fun _ => fun
  | [d] => { results := [.lit (.bool true)], args := [d] }
  | _ => none }
def deedsByDifferencesRow : OpenClaim := { program := "ytkomcdohejibmaagreatdoor", sum := "71aa36a7008e2dd9d2cd65c7464e853ebd757946424f5d70d323c1beac994e27", func := "backlot/backkeep1.DeedsByDifferences", spec := "deedsByDifferences", inPlace := ["internal/bytealg.IndexByteString", "internal/bytealg.IndexString", "internal/bytealg.abigen_runtime_cmpstring", "internal/bytealg.CountString", "internal/abi.NoEscape", "internal/bytealg.MakeNoZero"], unfollowed := true, recurses := true, named := ["unicode/utf8.first", "unicode/utf8.acceptRanges", "internal/bytealg.MaxLen"], plainKeys := false, apart := false, laid := [("unicode/utf8.acceptRanges", laid_unicode_utf8_acceptRanges), ("unicode/utf8.first", laid_unicode_utf8_first)] }
def DeedsByDifferencesSaid : Prop := deedsByDifferencesRow.holds Tryz.pinned (OpenSpec.ofChange deedsByDifferencesSpec)

/-- ITS FALSE NEIGHBOUR: 'it returns false'. Refute it at one input. -/
def deedsByDifferencesWrong : ChangeSpec := { name := "deedsByDifferences", fn := fun _ => fun
  | [d] => { results := [.lit (.bool false)], args := [d] }
  | _ => none }
def DeedsByDifferencesWrongFalsely : Prop := deedsByDifferencesRow.holds Tryz.pinned (OpenSpec.ofChange deedsByDifferencesWrong)

/-- 'backkeep1.MendsSettle': WHATEVER THE INPUT: true; the input reads as it did. -/
def mendsSettleSpec : ChangeSpec := { name := "mendsSettle", fn := fun _ => fun
  | [d] => { results := [.lit (.bool true)], args := [d] }
  | _ => none }
def mendsSettleRow : OpenClaim := { program := "ytkomcdohejibmaagreatdoor", sum := "71aa36a7008e2dd9d2cd65c7464e853ebd757946424f5d70d323c1beac994e27", func := "backlot/backkeep1.MendsSettle", spec := "mendsSettle", inPlace := ["internal/bytealg.IndexByteString", "internal/bytealg.IndexString", "internal/bytealg.abigen_runtime_cmpstring", "internal/bytealg.CountString", "internal/abi.NoEscape", "internal/bytealg.MakeNoZero"], unfollowed := true, recurses := true, named := ["unicode/utf8.first", "unicode/utf8.acceptRanges", "internal/bytealg.MaxLen"], plainKeys := false, apart := false, laid := [("unicode/utf8.acceptRanges", laid_unicode_utf8_acceptRanges), ("unicode/utf8.first", laid_unicode_utf8_first)] }
def MendsSettleSaid : Prop := mendsSettleRow.holds Tryz.pinned (OpenSpec.ofChange mendsSettleSpec)

/-- ITS FALSE NEIGHBOUR: 'it returns false'. Refute it at one input. -/
def mendsSettleWrong : ChangeSpec := { name := "mendsSettle", fn := fun _ => fun
  | [d] => { results := [.lit (.bool false)], args := [d] }
  | _ => none }
def MendsSettleWrongFalsely : Prop := mendsSettleRow.holds Tryz.pinned (OpenSpec.ofChange mendsSettleWrong)

/- THE SECOND FORM. 'bulk': how many values and letters a reading holds, each counted each time it is reached (what is shared counts as often as it is met; a slice's spare places count too). A statement '..UptoSaid' is the law's where the arguments, and the package variables that the reading takes, are together of bulk at most 1048576: NARROWER than '..Said'. Prove '..Said' where nothing that the law and all that it calls make is longer than what came in: it says more and counts as full. Else prove '..UptoSaid'. A law counts once. -/
mutual
def uptoBulk {H : Type} : DataW H → Nat
  | .lit (.string bytes) => bytes.length + 1
  | .lit _ => 1
  | .nil => 1
  | .ptr d => uptoBulk d + 1
  | .slice elems spare => uptoBulkAll elems + uptoBulkAll spare + 1
  | .agg parts => uptoBulkAll parts + 1
  | .iface _ d => uptoBulk d + 1
  | .map entries => uptoBulkEntries entries + 1
  | .held _ => 1
def uptoBulkAll {H : Type} : List (DataW H) → Nat
  | [] => 0
  | d :: r => uptoBulk d + uptoBulkAll r
def uptoBulkEntries {H : Type} : List (Lit × DataW H) → Nat
  | [] => 0
  | x :: r => uptoBulkEntry x + uptoBulkEntries r
def uptoBulkEntry {H : Type} : Lit × DataW H → Nat
  | (.string bytes, d) => bytes.length + uptoBulk d + 1
  | (_, d) => uptoBulk d + 1
 end
def uptoSmall : (H : Type) → List (DataW H) → Bool := fun _ ds => decide (uptoBulkAll ds ≤ 1048576)
def OpenSpec.upto (s : _root_.Go.ChangeSpec) : _root_.Go.OpenSpec := { _root_.Go.OpenSpec.ofChange s with cond := some uptoSmall }

/-- 'backkeep1.DeedsStay', WHERE WHAT IT READS IS OF BULK AT MOST 1048576: true; the input reads as it did. -/
def deedsStayUptoRow : OpenClaim := { program := "ytkomcdohejibmaagreatdoor", sum := "71aa36a7008e2dd9d2cd65c7464e853ebd757946424f5d70d323c1beac994e27", func := "backlot/backkeep1.DeedsStay", spec := "deedsStay", inPlace := ["internal/bytealg.IndexByteString", "internal/bytealg.IndexString", "internal/bytealg.abigen_runtime_cmpstring", "internal/bytealg.CountString", "internal/abi.NoEscape", "internal/bytealg.MakeNoZero"], unfollowed := true, recurses := true, named := ["unicode/utf8.first", "unicode/utf8.acceptRanges", "internal/bytealg.MaxLen"], plainKeys := false, apart := false, laid := [("unicode/utf8.acceptRanges", laid_unicode_utf8_acceptRanges), ("unicode/utf8.first", laid_unicode_utf8_first)], narrowed := true }
def DeedsStayUptoSaid : Prop := deedsStayUptoRow.holds Tryz.pinned (OpenSpec.upto deedsStaySpec)

/-- 'backkeep1.DeedsInAnyOrder', WHERE WHAT IT READS IS OF BULK AT MOST 1048576: true; the input reads as it did. -/
def deedsInAnyOrderUptoRow : OpenClaim := { program := "ytkomcdohejibmaagreatdoor", sum := "71aa36a7008e2dd9d2cd65c7464e853ebd757946424f5d70d323c1beac994e27", func := "backlot/backkeep1.DeedsInAnyOrder", spec := "deedsInAnyOrder", inPlace := ["internal/bytealg.IndexByteString", "internal/bytealg.IndexString", "internal/bytealg.abigen_runtime_cmpstring", "internal/bytealg.CountString", "internal/abi.NoEscape", "internal/bytealg.MakeNoZero"], unfollowed := true, recurses := true, named := ["unicode/utf8.first", "unicode/utf8.acceptRanges", "internal/bytealg.MaxLen"], plainKeys := false, apart := false, laid := [("unicode/utf8.acceptRanges", laid_unicode_utf8_acceptRanges), ("unicode/utf8.first", laid_unicode_utf8_first)], narrowed := true }
def DeedsInAnyOrderUptoSaid : Prop := deedsInAnyOrderUptoRow.holds Tryz.pinned (OpenSpec.upto deedsInAnyOrderSpec)

/-- 'backkeep1.MailMakesNobodyLate', WHERE WHAT IT READS IS OF BULK AT MOST 1048576: true; the input reads as it did. -/
def mailMakesNobodyLateUptoRow : OpenClaim := { program := "ytkomcdohejibmaagreatdoor", sum := "71aa36a7008e2dd9d2cd65c7464e853ebd757946424f5d70d323c1beac994e27", func := "backlot/backkeep1.MailMakesNobodyLate", spec := "mailMakesNobodyLate", inPlace := ["internal/bytealg.IndexByteString", "internal/bytealg.IndexString", "internal/bytealg.abigen_runtime_cmpstring", "internal/bytealg.CountString", "internal/abi.NoEscape", "internal/bytealg.MakeNoZero"], unfollowed := true, recurses := true, named := ["unicode/utf8.first", "unicode/utf8.acceptRanges", "internal/bytealg.MaxLen"], plainKeys := false, apart := false, laid := [("unicode/utf8.acceptRanges", laid_unicode_utf8_acceptRanges), ("unicode/utf8.first", laid_unicode_utf8_first)], narrowed := true }
def MailMakesNobodyLateUptoSaid : Prop := mailMakesNobodyLateUptoRow.holds Tryz.pinned (OpenSpec.upto mailMakesNobodyLateSpec)

/-- 'backkeep1.DeedsByDifferences', WHERE WHAT IT READS IS OF BULK AT MOST 1048576: true; the input reads as it did. -/
def deedsByDifferencesUptoRow : OpenClaim := { program := "ytkomcdohejibmaagreatdoor", sum := "71aa36a7008e2dd9d2cd65c7464e853ebd757946424f5d70d323c1beac994e27", func := "backlot/backkeep1.DeedsByDifferences", spec := "deedsByDifferences", inPlace := ["internal/bytealg.IndexByteString", "internal/bytealg.IndexString", "internal/bytealg.abigen_runtime_cmpstring", "internal/bytealg.CountString", "internal/abi.NoEscape", "internal/bytealg.MakeNoZero"], unfollowed := true, recurses := true, named := ["unicode/utf8.first", "unicode/utf8.acceptRanges", "internal/bytealg.MaxLen"], plainKeys := false, apart := false, laid := [("unicode/utf8.acceptRanges", laid_unicode_utf8_acceptRanges), ("unicode/utf8.first", laid_unicode_utf8_first)], narrowed := true }
def DeedsByDifferencesUptoSaid : Prop := deedsByDifferencesUptoRow.holds Tryz.pinned (OpenSpec.upto deedsByDifferencesSpec)

/-- 'backkeep1.MendsSettle', WHERE WHAT IT READS IS OF BULK AT MOST 1048576: true; the input reads as it did. -/
def mendsSettleUptoRow : OpenClaim := { program := "ytkomcdohejibmaagreatdoor", sum := "71aa36a7008e2dd9d2cd65c7464e853ebd757946424f5d70d323c1beac994e27", func := "backlot/backkeep1.MendsSettle", spec := "mendsSettle", inPlace := ["internal/bytealg.IndexByteString", "internal/bytealg.IndexString", "internal/bytealg.abigen_runtime_cmpstring", "internal/bytealg.CountString", "internal/abi.NoEscape", "internal/bytealg.MakeNoZero"], unfollowed := true, recurses := true, named := ["unicode/utf8.first", "unicode/utf8.acceptRanges", "internal/bytealg.MaxLen"], plainKeys := false, apart := false, laid := [("unicode/utf8.acceptRanges", laid_unicode_utf8_acceptRanges), ("unicode/utf8.first", laid_unicode_utf8_first)], narrowed := true }
def MendsSettleUptoSaid : Prop := mendsSettleUptoRow.holds Tryz.pinned (OpenSpec.upto mendsSettleSpec)

end Rows
end Go.Proofs.YtkomcdohejibmaaGreatDoor
