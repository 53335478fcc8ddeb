/- What all laws of this seat share: the library's own variables, and the row's frame. Own work of this seat. -/
import Derived.Test.YtpjbbpilgfihbaaGreatDoorLk
import Derived.Test.YtpjbbpilgfihbaaGreatDoorAvKs
import Derived.Test.YtpjbbpilgfihbaaGreatDoorCards
import Derived.Test.YtpjbbpilgfihbaaGreatDoorTie
import Derived.Shelf.Vars
import Derived.LaidSub
import Derived.Lib.LaidTab
import Derived.Stop.LaidErr
set_option maxRecDepth 100000
set_option linter.unusedSimpArgs false
set_option linter.unusedVariables false
namespace Go.Proofs.YtpjbbpilgfihbaaGreatDoor
open Go Go.Av Go.RowKit Go.ChangeShapes Go.WideShapes Go.ChangeAt

theorem own : ownKnob Tryz.prog.godebug = none := by kernel_rfl
theorem c3 : Tryz.prog.cellsOf 3 = 1 := by kernel_rfl

/-- the blocks of the package-level variables -/
def stdOf (W : World) : Std := fun k => if k < 1000 then W.heap[k]? else none
theorem stands (W : World) : Stands (stdOf W) W := fun k o e => by
  unfold stdOf at e
  split at e
  · exact e
  · cases e

theorem var_heap {P : Program} {W : World} {n : String} {g : Nat} {cs : Array Value} (hg : P.globalNamed n = some g) (h : W.var? P n = some cs) : ∃ t z, W.heap[g]? = some (.cells cs t z) := by
  simp only [World.var?, hg, Option.bind_some] at h
  split at h
  · rename_i c t z hq
    cases h
    exact ⟨t, z, hq⟩
  · cases h

theorem star_name : "*" ++ "errors.errorString" = "*errors.errorString" := by decide
theorem error_row (u : TypeId) (h : Tryz.prog.typeName? 3 u = some "*errors.errorString") : u = 215 :=
  typeName_ptr_named (nm := "errors.errorString") (by rw [star_name]; kernel_rfl) (by kernel_rfl) (by decide) u (by rw [star_name]; exact h)

theorem pow_data : Rows.laid_internal_strconv_uint64pow10 = Lib.tabData (H := Unit) .u64 Lib.pow10Tab := by kernel_rfl

theorem lib_ok {W : World} (h : W.ShapedOpen Tryz.prog) {laid : List (String × DataW Unit)} (hp : (laid.all fun x => x.2.handleName?.isNone) = true) (hL : laidMetH Tryz.prog laid W)
    (e1 : laid.filter (fun x => x.1 == "internal/strconv.uint64pow10") = [("internal/strconv.uint64pow10", Rows.laid_internal_strconv_uint64pow10)])
    (e2 : laid.filter (fun x => x.1 == "strconv.ErrSyntax") = [("strconv.ErrSyntax", Rows.laid_strconv_ErrSyntax)]) : LibOk (stdOf W) := by
  rw [MakeChecks.laidMetH_plain _ _ _ hp] at hL
  have h1 := hL.filter (fun x => x.1 == "internal/strconv.uint64pow10")
  have h2 := hL.filter (fun x => x.1 == "strconv.ErrSyntax")
  rw [e1, pow_data] at h1
  rw [e2] at h2
  refine ⟨?_, ?_, ?_⟩
  · have hg : Tryz.lays144_ren.g 1 = 0 := rfl
    obtain ⟨zero, t, hz⟩ : ∃ zero t, ((begin Tryz.prog (fun _ _ => 0) default).world.heap[0]?).bind Obj.row? = some (zero, t) ∧ zero.size = 1 ∧ Tryz.prog.buildable t = true ∧ Tryz.prog.cellTypes Tryz.prog.depth t = some [t] ∧ Tryz.prog.underlying t = some (.int .i64) := by
      refine ⟨#[.int .i64 0], 3, by kernel_rfl, by kernel_rfl, by kernel_rfl, by kernel_rfl, by kernel_rfl⟩
    obtain ⟨m, hm⟩ := Go.Proofs.cell_of_shapedOpen_int h (g := 0) (of_decide_eq_true (by kernel_rfl)) hz.1 hz.2.1 hz.2.2.1 hz.2.2.2.1 hz.2.2.2.2
    unfold World.cell? at hm
    split at hm
    · rename_i cs t z hq
      exact ⟨m, cs, t, z, hq, by simpa using hm⟩
    · cases hm
  · have ht := Lib.tabIs_of_head (g := 5) (t := 220) (e := 191) (n := 20) (by kernel_rfl) (by kernel_rfl) Tryz.underlying220 Tryz.underlying191 (by kernel_rfl) (by kernel_rfl) h1
    exact var_heap (by kernel_rfl) ht
  · obtain ⟨a0, s0, hv0, -, -, -⟩ := laid_sentinel h2 (g := 1) (by kernel_rfl) (by kernel_rfl) Tryz.underlying120 error_row Tryz.underlying215 Tryz.underlying217 rfl rfl Tryz.underlying9 (by kernel_rfl) (by kernel_rfl)
    obtain ⟨t, z, hh⟩ := var_heap (g := 1) (by kernel_rfl) hv0
    exact ⟨_, _, t, z, hh⟩
end Go.Proofs.YtpjbbpilgfihbaaGreatDoor
