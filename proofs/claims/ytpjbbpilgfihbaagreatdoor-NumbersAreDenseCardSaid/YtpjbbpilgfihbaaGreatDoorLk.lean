/- What is leant on of the library's variables. Own work of this seat. -/
import Derived.Test.YtpjbbpilgfihbaaGreatDoorSx
import Derived.Test.YtpjbbpilgfihbaaGreatDoorAvY
import Derived.Lib.ItoaNum
import Derived.Lib.Builder
set_option linter.unusedSimpArgs false
set_option linter.unusedVariables false
namespace Go.Proofs.YtpjbbpilgfihbaaGreatDoor
open Go Go.Av Go.RowKit

structure LibOk (S : Std) : Prop where
  maxlen : ∃ m cs t z, S 0 = some (.cells cs t z) ∧ cs[0]? = some (.int .i64 m)
  pow10 : ∃ t z, S 5 = some (.cells (Lib.pow10Tab.map fun z => Value.int .u64 z).toArray t z)
  syn : ∃ te pe t z, S 1 = some (.cells #[.iface te pe] t z)

theorem LibOk.cell {S : Std} (hS : LibOk S) : ∃ m, ∀ w, Stands S w → w.cell? ⟨Tryz.lays144_ren.g 1, 0, none⟩ = some (.int .i64 m) := by
  obtain ⟨m, cs, t, z, h, h0⟩ := hS.maxlen
  exact ⟨m, fun w hw => (Lib.cell_of_heap (hw _ _ h) 0).trans h0⟩
end Go.Proofs.YtpjbbpilgfihbaaGreatDoor
