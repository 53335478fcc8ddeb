/- What both laws of this seat share: the library's own cell, and the row's frame. Own work of this seat. -/
import Derived.Test.YtpjbbpilgfihbaaDoorBi
import Derived.Test.YtpjbbpilgfihbaaDoorAvKs
import Derived.Test.YtpjbbpilgfihbaaDoorCards
import Derived.Test.YtpjbbpilgfihbaaDoorTie
import Derived.Shelf.Vars
set_option maxRecDepth 100000
set_option linter.unusedSimpArgs false
set_option linter.unusedVariables false
namespace Go.Proofs.YtpjbbpilgfihbaaDoor
open Go Go.Av Go.RowKit Go.ChangeShapes Go.WideShapes Go.ChangeAt

theorem own : ownKnob Tryd.prog.godebug = none := by kernel_rfl
theorem c3 : Tryd.prog.cellsOf 3 = 1 := by kernel_rfl

/-- internal/bytealg.MaxLen holds some integer -/
theorem maxlen {W : World} (h : W.ShapedOpen Tryd.prog) : ∃ m, Le (gm m) (full W) := by
  have hg : Tryd.lays144_ren.g 1 = 0 := rfl
  obtain ⟨zero, t, hz⟩ : ∃ zero t, ((begin Tryd.prog (fun _ _ => 0) default).world.heap[0]?).bind Obj.row? = some (zero, t) ∧ zero.size = 1 ∧ Tryd.prog.buildable t = true ∧ Tryd.prog.cellTypes Tryd.prog.depth t = some [t] ∧ Tryd.prog.underlying t = some (.int .i64) := by
    refine ⟨#[.int .i64 0], 3, by kernel_rfl, by kernel_rfl, by kernel_rfl, by kernel_rfl, by kernel_rfl⟩
  obtain ⟨m, hm⟩ := Go.Proofs.cell_of_shapedOpen_int h (g := 0) (of_decide_eq_true (by kernel_rfl)) hz.1 hz.2.1 hz.2.2.1 hz.2.2.2.1 hz.2.2.2.2
  refine ⟨m, fun b o v e => ?_⟩
  unfold gm at e
  split at e
  · rename_i hb
    obtain ⟨rfl, rfl⟩ := hb
    cases e
    exact full_of hm rfl
  · cases e
end Go.Proofs.YtpjbbpilgfihbaaDoor
