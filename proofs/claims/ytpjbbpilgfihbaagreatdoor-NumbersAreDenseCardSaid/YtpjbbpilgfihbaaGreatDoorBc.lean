/- Functions of package strings, out of the library's contracts. Own work of this seat. -/
import Derived.Test.YtpjbbpilgfihbaaGreatDoorBa
import Derived.Test.YtpjbbpilgfihbaaGreatDoorLk
set_option linter.unusedSimpArgs false
set_option linter.unusedVariables false
namespace Go.Proofs.YtpjbbpilgfihbaaGreatDoor
open Go Go.Av Go.RowKit

theorem pch_lib {g : Std} {f : FuncId} {args : List AV} {r : AV} (vs : List Value) (v : Value) (hb : hasBody Tryz.prog f = true) (ha : ∀ h vs', RL h Lf0 true vs' args → vs' = vs) (hr : ∀ h, RV h Lf0 true v r)
    (H : ∀ w, Stands g w → Calls Tryz.prog f vs.toArray w fun e w' => e = .returned v ∧ Same w w') : PcH Tryz.prog g f args (· = r) := by
  refine ⟨hb, fun h w vs' hg hm hv => ?_⟩
  have := ha h vs' hv
  subst this
  refine (H w hg).mono ?_
  rintro e w' ⟨rfl, hs⟩
  exact ⟨v, r, h, rfl, rfl, fun b o v e => ⟨hs.cell (hm b o v e).1, (hm b o v e).2⟩, fun _ _ _ x => x, fun b o e n => (n e).elim, hs, hr h⟩
theorem pc_lib {f : FuncId} {args : List AV} {r : AV} (vs : List Value) (v : Value) (hb : hasBody Tryz.prog f = true) (ha : ∀ h vs', RL h Lf0 true vs' args → vs' = vs) (hr : ∀ h, RV h Lf0 true v r)
    (H : ∀ w, Calls Tryz.prog f vs.toArray w fun e w' => e = .returned v ∧ Same w w') : Pc Tryz.prog f args (· = r) := by
  refine ⟨hb, fun h w vs' hm hv => ?_⟩
  have := ha h vs' hv
  subst this
  refine (H w).mono ?_
  rintro e w' ⟨rfl, hs⟩
  exact ⟨v, r, h, rfl, rfl, fun b o v e => ⟨hs.cell (hm b o v e).1, (hm b o v e).2⟩, fun _ _ _ x => x, fun b o e n => (n e).elim, hs, hr h⟩

theorem rv_str {h : Mem} {v : Value} {s : List UInt8} (r : RV h Lf0 true v (.str s)) : v = .string ⟨s.toArray⟩ := by cases r with | str => rfl
theorem rv_int {h : Mem} {v : Value} {k : IntKind} {n : Int} (r : RV h Lf0 true v (.int k n)) : v = .int k n := by cases r with | int => rfl
theorem two_strs (s p : List UInt8) : ∀ h vs', RL h Lf0 true vs' [.str s, .str p] → vs' = [.string ⟨s.toArray⟩, .string ⟨p.toArray⟩] := by
  intro h vs' r
  cases r with | cons r1 r => cases r with | cons r2 r => cases r; rw [rv_str r1, rv_str r2]


theorem cutPrefix_pc (s p : List UInt8) : Pc Tryz.prog 64 [.str s, .str p] (· = .tup [.str (Lib.trimPrefix s p), .bool (Lib.hasPrefix s p)]) :=
  pc_lib [_, _] (.tuple #[.string ⟨(Lib.trimPrefix s p).toArray⟩, .bool (Lib.hasPrefix s p)]) hB64 (two_strs s p) (fun h => .tup [_, _] [_, _] (.cons (.str _) (.cons (.bool _) .nil)))
    fun w => (Any.strings_CutPrefix Tryz.lays103 ⟨s.toArray⟩ ⟨p.toArray⟩ w).mono fun e w' ⟨h1, h2⟩ => ⟨h1, h2 ▸ .refl w⟩
theorem hasPrefix_pc (s p : List UInt8) : Pc Tryz.prog 79 [.str s, .str p] (· = .bool (Lib.hasPrefix s p)) :=
  pc_lib [_, _] (.bool (Lib.hasPrefix s p)) hB79 (two_strs s p) (fun h => .bool _) fun w => (Any.strings_HasPrefix Tryz.lays99 ⟨s.toArray⟩ ⟨p.toArray⟩ w).mono fun e w' ⟨h1, h2⟩ => ⟨h1, h2 ▸ .refl w⟩
theorem hasSuffix_pc (s p : List UInt8) (hs : s.length ≤ 9223372036854775807) : Pc Tryz.prog 56 [.str s, .str p] (· = .bool (Lib.hasSuffix s p)) :=
  pc_lib [_, _] (.bool (Lib.hasSuffix s p)) hB56 (two_strs s p) (fun h => .bool _) fun w => (Any.strings_HasSuffix Tryz.lays100 ⟨s.toArray⟩ ⟨p.toArray⟩ w hs).mono fun e w' ⟨h1, h2⟩ => ⟨h1, h2 ▸ .refl w⟩
theorem lastIndex_pc (s p : List UInt8) (hs : s.length < 4611686018427387904) : Pc Tryz.prog 170 [.str s, .str p] (· = .int .i64 (Lib.lastIndex s p)) :=
  pc_lib [_, _] (.int .i64 (Lib.lastIndex s p)) hB170 (two_strs s p) (fun h => .int _ _) fun w => (Any.strings_LastIndex Tryz.lays148 ⟨s.toArray⟩ ⟨p.toArray⟩ hs w).mono fun e w' ⟨h1, h2⟩ => ⟨h1, h2 ▸ .refl w⟩
theorem indexByte_pc (s : List UInt8) (c : Int) : Pc Tryz.prog 119 [.str s, .int .u8 c] (· = .int .i64 (Lib.indexByte s c.toNat.toUInt8)) :=
  pc_lib [.string ⟨s.toArray⟩, .int .u8 c] (.int .i64 (Lib.indexByte s c.toNat.toUInt8)) hB119 (fun h vs' r => by cases r with | cons r1 r => cases r with | cons r2 r => cases r; rw [rv_str r1, rv_int r2]) (fun h => .int _ _)
    fun w => (Any.strings_IndexByte Tryz.lays137 ⟨s.toArray⟩ c w).mono fun e w' ⟨h1, h2⟩ => ⟨h1, h2 ▸ .refl w⟩


theorem contains_pch {S : Std} (hS : LibOk S) (s p : List UInt8) (hs : s.length < 4294967281) : PcH Tryz.prog S 115 [.str s, .str p] (· = .bool (Lib.contains s p)) :=
  pch_lib [_, _] (.bool (Lib.contains s p)) hB115 (two_strs s p) (fun h => .bool _) fun w H => (Any.strings_Contains Tryz.lays144 ⟨s.toArray⟩ ⟨p.toArray⟩ _ w hs (hS.cell.choose_spec w H)).mono fun e w' ⟨h1, h2⟩ => ⟨h1, h2 ▸ .refl w⟩

theorem same_drewN (w : World) : ∀ n, Same w (w.drewN n) := fun n => ⟨rfl, rfl, rfl, Nat.le_refl _, fun _ _ => rfl⟩

theorem cut_pch {S : Std} (hS : LibOk S) (s p : List UInt8) (hs : s.length < 4294967281) : PcH Tryz.prog S 169 [.str s, .str p] (· = .tup [.str (Lib.cut s p).1, .str (Lib.cut s p).2.1, .bool (Lib.cut s p).2.2]) :=
  pch_lib [_, _] (.tuple #[.string ⟨(Lib.cut s p).1.toArray⟩, .string ⟨(Lib.cut s p).2.1.toArray⟩, .bool (Lib.cut s p).2.2]) hB169 (two_strs s p) (fun h => .tup [_, _, _] [_, _, _] (.cons (.str _) (.cons (.str _) (.cons (.bool _) .nil))))
    fun w H => (Any.strings_Cut Tryz.lays145 ⟨s.toArray⟩ ⟨p.toArray⟩ _ w hs (hS.cell.choose_spec w H)).mono fun e w' ⟨h1, n, h2⟩ => ⟨h1, h2 ▸ same_drewN w n⟩

/-- the pieces of a text, as lists of bytes -/
def splitL (s p : List UInt8) : List (List UInt8) := (Lib.splitB ⟨p.toArray⟩ 0 (Lib.countB ⟨s.toArray⟩ ⟨p.toArray⟩) ⟨s.toArray⟩).map (·.data.toList)

theorem split_pch {S : Std} (hS : LibOk S) (s p : List UInt8) (hs : s.length < 4294967281) (hp : 1 ≤ p.length) : PcH Tryz.prog S 62 [.str s, .str p] (· = .fz 1 (splitL s p |>.map .str)) := by
  refine ⟨hB62, fun h w vs' hg hm hv => ?_⟩
  have := two_strs s p h vs' hv
  subst this
  refine (Any.strings_Split Tryz.lays146 (by kernel_rfl) ⟨s.toArray⟩ ⟨p.toArray⟩ _ w hs (hS.cell.choose_spec w hg) hp).mono ?_
  rintro e w' ⟨rfl, rfl⟩
  have hlen := Lib.splitB_all ⟨p.toArray⟩ hp 0 _ ⟨s.toArray⟩ rfl
  generalize hL : Lib.splitB ⟨p.toArray⟩ 0 (Lib.countB ⟨s.toArray⟩ ⟨p.toArray⟩) ⟨s.toArray⟩ = L at hlen ⊢
  have hsl : splitL s p = L.map (·.data.toList) := by rw [splitL, hL]
  have hval : L.map Value.string = (splitL s p).map sval := by
    rw [hsl, List.map_map]; rfl
  rw [hval, ← hlen, show L.length = (splitL s p).length by rw [hsl]; simp]
  have h1 : ∀ v ∈ (splitL s p).map sval, v.oneCell' = true := by intro v hv; obtain ⟨x, _, rfl⟩ := List.mem_map.1 hv; rfl
  have hmine : Mine h (fun _ => none) [] w := ⟨hm, fun id blk e => by simp at e, fun _ _ => rfl, fun i j g t t' e => by simp at e, fun i g t e => by simp at e⟩
  obtain ⟨m2, l2⟩ := hmine.freezeNew ((splitL s p).map sval) 9 h1
  refine ⟨_, _, Mem.add h w.heap.size ((splitL s p).map sval), rfl, rfl, m2.mem, l2.hle, fun b o e n => ?_, .alloc w _, ?_⟩
  · rcases l2.hnew b o e n with ⟨j, t, hj⟩ | hs
    · cases hj
    · exact hs
  · have := RV.fz (h := Mem.add h w.heap.size ((splitL s p).map sval)) (Lf := Lf0) (fl := true) w.heap.size 0 (splitL s p).length 1 ((splitL s p).map .str) ((splitL s p).map sval) ?_ (by simp [cellsOf]) ?_ (by simp)
    · simpa using this
    · rw [flat_strs]
      generalize Mem.add h w.heap.size ((splitL s p).map sval) = hh
      generalize splitL s p = z
      induction z with
      | nil => exact .nil
      | cons x z ih => exact .cons (.str x) ih
    · intro k v hv
      simp only [Mem.add, Nat.zero_add, if_true]
      exact hv
end Go.Proofs.YtpjbbpilgfihbaaGreatDoor
