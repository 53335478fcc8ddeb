/- strings.Builder: what writing a string does to memory, to the block. Own work of this seat. -/
import Derived.Test.YtikbgjhajgjjdaaGreatDoorP18
import Derived.Test.YtikbgjhajgjjdaaGreatDoorP14
import Derived.Lib.Builder
import Derived.Lib.AppendStr
import Derived.Lib.UnsafeStr
import Derived.WalkKit
import Derived.Test.YtikbgjhajgjjdaaGreatDoorP21
import Derived.Test.YtikbgjhajgjjdaaGreatDoorP19
set_option linter.unusedVariables false
set_option linter.unusedSimpArgs false
namespace Go.Proofs.YtikbgjhajgjjdaaGreatDoor
open Go Go.RowKit Go.Lib
open Go.Av (Fr rowOf WriteC StringC)

theorem jb : ∃ j, Tryz.prog.info? 83 = some j ∧ j.size = 2 := Option.map_eq_some_iff.1 (show (Tryz.prog.info? 83).map (·.size) = some 2 by kernel_rfl)

set_option maxRecDepth 100000 in
theorem cc_used (b : Nat) (w : World) (h0 : w.cell? ⟨b, 0, none⟩ = some (.pointer (some ⟨b, 0, none⟩))) :
    Calls Tryz.prog 80 #[.pointer (some ⟨b, 0, none⟩)] w fun e w' => e = .returned (.tuple #[]) ∧ w' = w := by
  obtain ⟨j, hj, hjs⟩ := jb
  go_enter Tryz.func80, Tryz.ntmps80
  go_wp2
  rw [run_neq_ptr_same w _ Tryz.underlying80 hj]
  go_wp2
  go_end0
  exact ⟨rfl, rfl⟩

set_option maxRecDepth 100000 in
theorem cc_fresh (b : Nat) (w : World) (h0 : w.cell? ⟨b, 0, none⟩ = some (.pointer none)) (hsh : w.shape? b = some (83, 2)) (hfz : w.frozen? ⟨b, 0, none⟩ = false) :
    Calls Tryz.prog 80 #[.pointer (some ⟨b, 0, none⟩)] w fun e w' => e = .returned (.tuple #[]) ∧ w' = w.setCell ⟨b, 0, none⟩ (.pointer (some ⟨b, 0, none⟩)) := by
  obtain ⟨j, hj, hjs⟩ := jb
  go_enter Tryz.func80, Tryz.ntmps80
  go_wp2
  rw [run_to_unsafe w ⟨b, 0, none⟩ Tryz.underlying80 Tryz.underlying133 hj (by rw [hjs]; decide) hsh (Nat.zero_lt_succ 1)]
  simp only [Result.andThen]
  rw [Oper.upon_value]
  go_wp2
  rw [run_callFunc_extern Tryz.func110 (by kernel_rfl) (by kernel_rfl) (by kernel_rfl) (e := Extern.AbiNoEscape.same) (by kernel_rfl)]
  rw [run_noEscape]
  simp only [Result.andThen]
  rw [Oper.upon_value]
  go_wp2
  rw [run_from_unsafe w ⟨b, 0, none⟩ Tryz.underlying133 Tryz.underlying80 hj hsh (by kernel_rfl)]
  simp only [Result.andThen]
  rw [Oper.upon_value]
  go_wp2
  go_end0
  exact ⟨rfl, rfl⟩

theorem cc (B b : Nat) (bs : List Value) (w : World) (h : IsBuilder 83 5 B b bs w) : Calls Tryz.prog 80 #[.pointer (some ⟨b, 0, none⟩)] w fun e w' => e = .returned (.tuple #[]) ∧ BuilderAt 83 5 B b (.pointer (some ⟨b, 0, none⟩)) bs w' ∧
    Fr w w' b none ∧ w'.cell? ⟨b, 1, none⟩ = w.cell? ⟨b, 1, none⟩ := by
  rcases h with h | h
  · refine (cc_fresh b w h.cell0 h.shape h.frozen0).mono ?_
    rintro e w' ⟨rfl, rfl⟩
    refine ⟨rfl, h.used _, ⟨rfl, rfl, rfl, by simp [World.setCell], fun k _ hk _ => heap_setCell_other w _ k _ hk⟩, World.cell?_setCell_other _ _ _ _ (by simp)⟩
  · refine (cc_used b w h.cell0).mono ?_
    rintro e w' ⟨rfl, rfl⟩
    exact ⟨rfl, h, ⟨rfl, rfl, rfl, Nat.le_refl _, fun _ _ _ _ => rfl⟩, rfl⟩

/-- where the row stands behind an append of a string's bytes -/
theorem append_block {w : World} {B : Nat} {v v' : Value} {n : Nat} {xs : List Value} {s : ByteArray} {ty : TypeId} {w' : World} {i : TypeInfo} (hi : Tryz.prog.info? 5 = some i) (hz : i.zero = some (.int .u8 0)) (hsize : i.size = 1) (hby : i.bytes = 1)
    (hown : w.ownsRow B 5 1 v n xs) (h63 : n + s.size ≤ maxLen) (hb : n + s.size ≤ 140737488355328) (hB : B ≤ w.heap.size) (hr : (Builtin.append_ #[81, 9] ty #[v, .string s]).run Tryz.prog w = .ok v' w') :
    v'.ownBlock = none ∨ v'.ownBlock = v.ownBlock ∨ v'.ownBlock = some w.heap.size := by
  have hm63 : n + s.size ≤ 9223372036854775807 := by unfold maxLen at h63; omega
  have hxl : xs.length = n := by simpa using hown.1
  obtain ⟨v1, w1, hr1, _, _, h4⟩ := run_append_own_string (P := Tryz.prog) w B 81 9 ty 5 i Tryz.underlying81 Tryz.underlying9 hi hz hsize hby v n xs hown s h63 hb hB
  rw [hr] at hr1
  obtain ⟨rfl, _⟩ : v' = v1 ∧ w' = w1 := by simpa using hr1
  rcases hown.2 with ⟨rfl, rfl⟩ | ⟨g, cap, cur, rfl, hbg, hg, hnc, hcm, hcs, htake⟩
  · by_cases hm : s.size = 0
    · rw [h4.2 ⟨rfl, hm⟩]; exact .inl rfl
    · have h := run_append_nil_string (P := Tryz.prog) w 81 9 ty 5 i (.int .u8 0) Tryz.underlying81 Tryz.underlying9 hi hz s (by omega) (by omega) (by rw [hby]; omega)
      rw [hr] at h
      have : v' = .slice (some ⟨w.heap.size, 0, none⟩) s.size (grownCap w s.size 0 5) := (show v' = _ ∧ w' = _ by simpa using h).1
      rw [this]; exact .inr (.inr rfl)
  · by_cases hroom : n + s.size ≤ cap
    · have h := run_append_room_string (P := Tryz.prog) w 81 9 ty 5 i Tryz.underlying81 Tryz.underlying9 hi hsize g n cap cur hg s hroom (by omega)
      rw [hr] at h
      have : v' = .slice (some ⟨g, 0, none⟩) (n + s.size) cap := (show v' = _ ∧ w' = _ by simpa using h).1
      rw [this]; exact .inr (.inl rfl)
    · have h := run_append_grow_string (P := Tryz.prog) w 81 9 ty 5 i (.int .u8 0) Tryz.underlying81 Tryz.underlying9 hi hz ⟨g, 0, none⟩ n cap xs (by rw [hsize]; simpa using hxl) (hown.cells (g := g) rfl) s (by omega) (by omega) (by rw [hby]; exact growslice_fits (by omega) (by omega))
      rw [hr] at h
      have : v' = .slice (some ⟨w.heap.size, 0, none⟩) (n + s.size) (grownCap w (n + s.size) cap 5) := (show v' = _ ∧ w' = _ by simpa using h).1
      rw [this]; exact .inr (.inr rfl)

/-- the operation, for the walk -/
theorem wpList_append {w : World} {ops : Array Oper} {rest : List Oper} {o : Oper} {a : Act} {Q : Exit → Act → World → Prop} (hgd : o.guard = none) (sl x : Operand)
    (ho : o.op = .call { callee := .builtin .append, args := #[sl, x], argTypes := #[81, 9] }) (B : Nat) (i : TypeInfo) (hi : Tryz.prog.info? 5 = some i) (hz : i.zero = some (.int .u8 0)) (hsize : i.size = 1) (hby : i.bytes = 1)
    (v : Value) (n : Nat) (xs : List Value) (hs : a.eval sl = v) (hown : w.ownsRow B 5 1 v n xs) (s : ByteArray) (hx : a.eval x = .string s) (h63 : n + s.size ≤ maxLen) (hb : n + s.size ≤ 140737488355328) (hB : B ≤ w.heap.size)
    (h : ∀ v' w', w'.ownsRow B 5 1 v' (n + s.size) (xs ++ strCells s) → w.grownBy w' v.ownBlock → (v'.ownBlock = none ∨ v'.ownBlock = v.ownBlock ∨ v'.ownBlock = some w.heap.size) → wpList Tryz.prog ops Q rest (a.put o.dst v') w') : wpList Tryz.prog ops Q (o :: rest) a w := by
  refine wpList_plain hgd fun K hK => ?_
  obtain ⟨v', w', hr, h2, h3, _⟩ := run_append_own_string (P := Tryz.prog) w B 81 9 o.type 5 i Tryz.underlying81 Tryz.underlying9 hi hz hsize hby v n xs hown s h63 hb hB
  have hbk := append_block hi hz hsize hby hown h63 hb hB hr
  unfold Oper.wp execOp
  simp only [ho, resolve, invoke, builtin, Sem.run_bind, Sem.run_pure, Result.andThen_ok, List.map_toArray, List.map_cons, List.map_nil, hs, hx, hr]
  exact hK _ _ (h v' w' h2 h3 hbk)

set_option maxHeartbeats 2000000 in
set_option maxRecDepth 100000 in
/-- what WriteString does -/
theorem wstr (B b : Nat) (bs : List Value) (s : ByteArray) (w : World) (h : IsBuilder 83 5 B b bs w) (hlen : bs.length + s.size ≤ 140737488355328) (hBw : B ≤ w.heap.size) :
    Calls Tryz.prog 38 #[.pointer (some ⟨b, 0, none⟩), .string s] w fun e w' => e = .returned (.tuple #[.int .i64 s.size, .nilIface]) ∧ BuilderAt 83 5 B b (.pointer (some ⟨b, 0, none⟩)) (bs ++ strCells s) w' ∧
      Fr w w' b (rowOf w b) ∧ ∀ r, rowOf w' b = some r → rowOf w b = some r ∨ w.heap.size ≤ r := by
  obtain ⟨i0, hi, hz0, hz1, hz2⟩ := info_parts Tryz.Builder_Extra_169.infoByte
  go_enter Tryz.func38, Tryz.ntmps38
  go_wp2_with (go_at_call 80; refine (cc B b bs _ h).mono ?_)
  rintro e w1 ⟨rfl, h1, hf, hc1⟩
  obtain ⟨hB, v, hbk, hown, hne⟩ := h1
  have c0 : w1.cell? ⟨b, 0, none⟩ = some (.pointer (some ⟨b, 0, none⟩)) := by rw [cell_of_heap hbk]; rfl
  have c1 : w1.cell? ⟨b, 1, none⟩ = some v := by rw [cell_of_heap hbk]; rfl
  have hrow : rowOf w b = v.ownBlock := by rw [rowOf, ← hc1, c1]; rfl
  clear hc1
  go_wp2_with (at_builtin; refine wpList_append rfl _ _ rfl B i0 hi hz0 hz1 hz2 _ _ _ rfl hown s rfl ?c3 ?c4 ?c5 ?_)
  case c3 => unfold maxLen; omega
  case c4 => omega
  case c5 => have := hf.size; omega
  intro v' w2 hown' hgrow hblk
  have hlt : b < w1.heap.size := by
    rcases Nat.lt_or_ge b w1.heap.size with h' | h'
    · exact h'
    · simp [Array.getElem?_eq_none h'] at hbk
  have hb2 : w2.heap[b]? = some (.cells #[.pointer (some ⟨b, 0, none⟩), v] 83 (0, 0)) := by
    rw [hgrow.block b hlt (fun e => hne e.symm)]
    exact hbk
  have d0 : w2.cell? ⟨b, 0, none⟩ = some (.pointer (some ⟨b, 0, none⟩)) := by rw [cell_of_heap hb2]; rfl
  have d1 : w2.cell? ⟨b, 1, none⟩ = some v := by rw [cell_of_heap hb2]; rfl
  have f1 : w2.frozen? ⟨b, 1, none⟩ = false := frozen_of_heap hb2 1
  obtain ⟨ao, n', cap, rfl⟩ : ∃ ao n' cap, v' = .slice ao n' cap := by
    rcases hown'.2 with ⟨hv, _⟩ | ⟨g, cap, cur, hv, _⟩
    · exact ⟨_, _, _, hv⟩
    · exact ⟨_, _, _, hv⟩
  go_wp2
  go_ret2
  refine ⟨rfl, BuilderAt.put (T := 83) (e := 5) hB hb2 (bs' := bs ++ strCells s) (by simpa [strCells_length] using hown') (by decide), ?_⟩
  have hw2 : rowOf (w2.setCell ⟨b, 1, none⟩ (.slice ao n' cap)) b = Value.ownBlock (.slice ao n' cap) := by
    rw [rowOf, World.cell?_setCell_same _ _ _ d1]; rfl
  rw [hrow]
  refine ⟨⟨(hgrow.os.trans hf.os), (hgrow.tape.trans hf.tape), (hgrow.output.trans hf.output), by have := hf.size; have := hgrow.size; simp [World.setCell]; omega, fun k hk hkb hkr => by
    rw [heap_setCell_other _ _ k _ hkb, hgrow.block k (by have := hf.size; omega) hkr, hf.block k hk hkb (by simp)]⟩, fun r hr => ?_⟩
  rw [hw2] at hr
  rcases hblk with h | h | h
  · rw [h] at hr; cases hr
  · rw [h] at hr; exact .inl hr
  · rw [h] at hr
    have := hf.size
    simp at hr
    exact .inr (by omega)

theorem write_c : WriteC Tryz.prog 38 83 5 := ⟨hB38, fun B b bs s w h h1 h2 => wstr B b bs s w h h1 h2⟩
theorem string_c : StringC Tryz.prog 40 83 5 := ⟨hB40, fun B b l w h h2 => Any.Builder_String_any Tryz.lays169 Tryz.Builder_Extra_169 B b l w h h2⟩
end Go.Proofs.YtikbgjhajgjjdaaGreatDoor
/- Functions of package strings, out of the library's contracts. Own work of this seat. -/
set_option linter.unusedSimpArgs false
set_option linter.unusedVariables false
namespace Go.Proofs.YtikbgjhajgjjdaaGreatDoor
open Go Go.Av Go.RowKit

theorem pch_lib {g : Std} {f : FuncId} {args : List AV} {r : AV} (vs : List Value) (v : Value) (hb : hasBody Tryz.prog f = true) (ha : ∀ h vs', RL h Lf0 true vs' args → vs' = vs) (hr : ∀ h, RV h Lf0 true v r)
    (H : ∀ w, Stands g w → Calls Tryz.prog f vs.toArray w fun e w' => e = .returned v ∧ Same w w') : PcH Tryz.prog g f args (· = r) := by
  refine ⟨hb, fun h w vs' hg hm hv => ?_⟩
  have := ha h vs' hv
  subst this
  refine (H w hg).mono ?_
  rintro e w' ⟨rfl, hs⟩
  exact ⟨v, r, h, rfl, rfl, fun b o v e => ⟨hs.cell (hm b o v e).1, (hm b o v e).2⟩, fun _ _ _ x => x, fun b o e n => (n e).elim, hs, hr h⟩
theorem pc_lib {f : FuncId} {args : List AV} {r : AV} (vs : List Value) (v : Value) (hb : hasBody Tryz.prog f = true) (ha : ∀ h vs', RL h Lf0 true vs' args → vs' = vs) (hr : ∀ h, RV h Lf0 true v r)
    (H : ∀ w, Calls Tryz.prog f vs.toArray w fun e w' => e = .returned v ∧ Same w w') : Pc Tryz.prog f args (· = r) := by
  refine ⟨hb, fun h w vs' hm hv => ?_⟩
  have := ha h vs' hv
  subst this
  refine (H w).mono ?_
  rintro e w' ⟨rfl, hs⟩
  exact ⟨v, r, h, rfl, rfl, fun b o v e => ⟨hs.cell (hm b o v e).1, (hm b o v e).2⟩, fun _ _ _ x => x, fun b o e n => (n e).elim, hs, hr h⟩

theorem rv_str {h : Mem} {v : Value} {s : List UInt8} (r : RV h Lf0 true v (.str s)) : v = .string ⟨s.toArray⟩ := by cases r with | str => rfl
theorem rv_int {h : Mem} {v : Value} {k : IntKind} {n : Int} (r : RV h Lf0 true v (.int k n)) : v = .int k n := by cases r with | int => rfl
theorem two_strs (s p : List UInt8) : ∀ h vs', RL h Lf0 true vs' [.str s, .str p] → vs' = [.string ⟨s.toArray⟩, .string ⟨p.toArray⟩] := by
  intro h vs' r
  cases r with | cons r1 r => cases r with | cons r2 r => cases r; rw [rv_str r1, rv_str r2]


theorem cutPrefix_pc (s p : List UInt8) : Pc Tryz.prog 34 [.str s, .str p] (· = .tup [.str (Lib.trimPrefix s p), .bool (Lib.hasPrefix s p)]) :=
  pc_lib [_, _] (.tuple #[.string ⟨(Lib.trimPrefix s p).toArray⟩, .bool (Lib.hasPrefix s p)]) hB34 (two_strs s p) (fun h => .tup [_, _] [_, _] (.cons (.str _) (.cons (.bool _) .nil)))
    fun w => (Any.strings_CutPrefix Tryz.lays103 ⟨s.toArray⟩ ⟨p.toArray⟩ w).mono fun e w' ⟨h1, h2⟩ => ⟨h1, h2 ▸ .refl w⟩
theorem hasPrefix_pc (s p : List UInt8) : Pc Tryz.prog 19 [.str s, .str p] (· = .bool (Lib.hasPrefix s p)) :=
  pc_lib [_, _] (.bool (Lib.hasPrefix s p)) hB19 (two_strs s p) (fun h => .bool _) fun w => (Any.strings_HasPrefix Tryz.lays99 ⟨s.toArray⟩ ⟨p.toArray⟩ w).mono fun e w' ⟨h1, h2⟩ => ⟨h1, h2 ▸ .refl w⟩
theorem hasSuffix_pc (s p : List UInt8) (hs : s.length ≤ 9223372036854775807) : Pc Tryz.prog 16 [.str s, .str p] (· = .bool (Lib.hasSuffix s p)) :=
  pc_lib [_, _] (.bool (Lib.hasSuffix s p)) hB16 (two_strs s p) (fun h => .bool _) fun w => (Any.strings_HasSuffix Tryz.lays100 ⟨s.toArray⟩ ⟨p.toArray⟩ w hs).mono fun e w' ⟨h1, h2⟩ => ⟨h1, h2 ▸ .refl w⟩
theorem lastIndex_pc (s p : List UInt8) (hs : s.length < 4611686018427387904) : Pc Tryz.prog 133 [.str s, .str p] (· = .int .i64 (Lib.lastIndex s p)) :=
  pc_lib [_, _] (.int .i64 (Lib.lastIndex s p)) hB133 (two_strs s p) (fun h => .int _ _) fun w => (Any.strings_LastIndex Tryz.lays148 ⟨s.toArray⟩ ⟨p.toArray⟩ hs w).mono fun e w' ⟨h1, h2⟩ => ⟨h1, h2 ▸ .refl w⟩
theorem indexByte_pc (s : List UInt8) (c : Int) : Pc Tryz.prog 107 [.str s, .int .u8 c] (· = .int .i64 (Lib.indexByte s c.toNat.toUInt8)) :=
  pc_lib [.string ⟨s.toArray⟩, .int .u8 c] (.int .i64 (Lib.indexByte s c.toNat.toUInt8)) hB107 (fun h vs' r => by cases r with | cons r1 r => cases r with | cons r2 r => cases r; rw [rv_str r1, rv_int r2]) (fun h => .int _ _)
    fun w => (Any.strings_IndexByte Tryz.lays137 ⟨s.toArray⟩ c w).mono fun e w' ⟨h1, h2⟩ => ⟨h1, h2 ▸ .refl w⟩


theorem contains_pch {S : Std} (hS : LibOk S) (s p : List UInt8) (hs : s.length < 4294967281) : PcH Tryz.prog S 54 [.str s, .str p] (· = .bool (Lib.contains s p)) :=
  pch_lib [_, _] (.bool (Lib.contains s p)) hB54 (two_strs s p) (fun h => .bool _) fun w H => (Any.strings_Contains Tryz.lays144 ⟨s.toArray⟩ ⟨p.toArray⟩ _ w hs (hS.cell.choose_spec w H)).mono fun e w' ⟨h1, h2⟩ => ⟨h1, h2 ▸ .refl w⟩

theorem same_drewN (w : World) : ∀ n, Same w (w.drewN n) := fun n => ⟨rfl, rfl, rfl, Nat.le_refl _, fun _ _ => rfl⟩

theorem cut_pch {S : Std} (hS : LibOk S) (s p : List UInt8) (hs : s.length < 4294967281) : PcH Tryz.prog S 132 [.str s, .str p] (· = .tup [.str (Lib.cut s p).1, .str (Lib.cut s p).2.1, .bool (Lib.cut s p).2.2]) :=
  pch_lib [_, _] (.tuple #[.string ⟨(Lib.cut s p).1.toArray⟩, .string ⟨(Lib.cut s p).2.1.toArray⟩, .bool (Lib.cut s p).2.2]) hB132 (two_strs s p) (fun h => .tup [_, _, _] [_, _, _] (.cons (.str _) (.cons (.str _) (.cons (.bool _) .nil))))
    fun w H => (Any.strings_Cut Tryz.lays145 ⟨s.toArray⟩ ⟨p.toArray⟩ _ w hs (hS.cell.choose_spec w H)).mono fun e w' ⟨h1, n, h2⟩ => ⟨h1, h2 ▸ same_drewN w n⟩

/-- the pieces of a text, as lists of bytes -/
def splitL (s p : List UInt8) : List (List UInt8) := (Lib.splitB ⟨p.toArray⟩ 0 (Lib.countB ⟨s.toArray⟩ ⟨p.toArray⟩) ⟨s.toArray⟩).map (·.data.toList)

theorem split_pch {S : Std} (hS : LibOk S) (s p : List UInt8) (hs : s.length < 4294967281) (hp : 1 ≤ p.length) : PcH Tryz.prog S 32 [.str s, .str p] (· = .fz 1 (splitL s p |>.map .str)) := by
  refine ⟨hB32, fun h w vs' hg hm hv => ?_⟩
  have := two_strs s p h vs' hv
  subst this
  refine (Any.strings_Split Tryz.lays146 (by kernel_rfl) ⟨s.toArray⟩ ⟨p.toArray⟩ _ w hs (hS.cell.choose_spec w hg) hp).mono ?_
  rintro e w' ⟨rfl, rfl⟩
  have hlen := Lib.splitB_all ⟨p.toArray⟩ hp 0 _ ⟨s.toArray⟩ rfl
  generalize hL : Lib.splitB ⟨p.toArray⟩ 0 (Lib.countB ⟨s.toArray⟩ ⟨p.toArray⟩) ⟨s.toArray⟩ = L at hlen ⊢
  have hsl : splitL s p = L.map (·.data.toList) := by rw [splitL, hL]
  have hval : L.map Value.string = (splitL s p).map sval := by
    rw [hsl, List.map_map]; rfl
  rw [hval, ← hlen, show L.length = (splitL s p).length by rw [hsl]; simp]
  have h1 : ∀ v ∈ (splitL s p).map sval, v.oneCell' = true := by intro v hv; obtain ⟨x, _, rfl⟩ := List.mem_map.1 hv; rfl
  have hmine : Mine h (fun _ => none) [] w := ⟨hm, fun id blk e => by simp at e, fun _ _ => rfl, fun i j g t t' e => by simp at e, fun i g t e => by simp at e⟩
  obtain ⟨m2, l2⟩ := hmine.freezeNew ((splitL s p).map sval) 9 h1
  refine ⟨_, _, Mem.add h w.heap.size ((splitL s p).map sval), rfl, rfl, m2.mem, l2.hle, fun b o e n => ?_, .alloc w _, ?_⟩
  · rcases l2.hnew b o e n with ⟨j, t, hj⟩ | hs
    · cases hj
    · exact hs
  · have := RV.fz (h := Mem.add h w.heap.size ((splitL s p).map sval)) (Lf := Lf0) (fl := true) w.heap.size 0 (splitL s p).length 1 ((splitL s p).map .str) ((splitL s p).map sval) ?_ (by simp [cellsOf]) ?_ (by simp)
    · simpa using this
    · rw [flat_strs]
      generalize Mem.add h w.heap.size ((splitL s p).map sval) = hh
      generalize splitL s p = z
      induction z with
      | nil => exact .nil
      | cons x z ih => exact .cons (.str x) ih
    · intro k v hv
      simp only [Mem.add, Nat.zero_add, if_true]
      exact hv
end Go.Proofs.YtikbgjhajgjjdaaGreatDoor
/- strings.SplitSeq at one blank: an iterator's contract. Own work of this seat. -/
set_option maxRecDepth 100000
set_option linter.unusedSimpArgs false
set_option linter.unusedVariables false
namespace Go.Proofs.YtikbgjhajgjjdaaGreatDoor
open Go Go.Av Go.RowKit
attribute [local go_sem ↓] br_true br_false dbr_true dbr_false dbri_true dbri_false dbrg_true dbrg_false
attribute [local go_sem] run cont br dbr dx dxc dgrd dyld dres dcall calm fieldPlace? allHas step1 opN grdN resN condN exitN stopN exitIt dOk xop xbin xint xarith xstr xbool xpick xnot xneg xextract xpart xpartOk xindex xfieldF fieldD xnew xbox xalloc xfieldAddr xptrAddIf xindexAddr xloadC xload putCells reElem xstoreB xstore xconv xtext xlen xlen2 xcall xfill xbuild cut rep xbuildSlice xbuildSliceD isRow elemD isU8 ev evs evp Go.Av.put Go.Av.get ofConst yldD yldV notBool_undef args0 cellsOf cond_true cond_false decide_true decide_false decide_eq_true_eq decide_eq_false_iff_not List.getElem?_cons_zero List.getElem?_cons_succ List.getElem?_nil List.getD_cons_zero List.getD_cons_succ List.getD_nil List.set_cons_zero List.set_cons_succ List.length_cons List.length_nil List.cons_append List.nil_append List.append_nil List.all_cons List.all_nil List.map_cons List.map_nil List.take_succ_cons List.take_zero List.drop_succ_cons List.drop_zero Bool.and_true Bool.true_and Bool.and_self Bool.and_false Bool.false_and one Go.Av.frozen beq_self_eq_true true_and and_true forall_const false_implies implies_true and_self Option.map_some Option.map_none Nat.zero_add Nat.add_zero Nat.zero_mul Nat.mul_one Nat.one_mul Int.toNat_zero ne_eq not_false_eq_true not_true_eq_false Bool.true_eq_false Bool.false_eq_true List.toList_toArray inr Go.Av.byteOf isByte decide_eq_decide Bool.not_true Bool.not_false Bool.not_eq_true' Bool.or_true Bool.true_or Bool.or_false Bool.false_or ge_iff_le gt_iff_lt and_assoc Bool.decide_eq_true beq_iff_eq beq_eq_false_iff_ne bne_iff_ne bne_self_eq_false if_true if_false Bool.and_eq_true Bool.or_eq_true Bool.and_eq_false_imp Bool.or_eq_false_iff Bool.not_eq_false' has Option.isSome_some Option.isSome_none Int.toNat_natCast Int.cast_ofNat_Int List.length_append xapp2 xapp xappS xappD xappB notInt srcOf srcB byteAV splice' xcut xcutS xcutF xcutB xcutN xcut0 cutL loOf hiOf evo xmake zelem xmax xcopy2 xcopyS xcopyB xnil xcut3 ixOf xclear2 xclearB List.getElem?_toArray xbin2 xnileq xempty xmkmap xmput xmputB xmputF isKey keyEq mfind xbin3 xeqs xeqop eqFs bothB leafEq xlook xlookB xlookF xbytes beq_c_n beq_n_c bne_c_n bne_n_c one_nil dxi dxic dbri rix dck reader blind opOk refOk Go.Op.operands Go.Call.operands List.contains_cons List.contains_nil dxg dxgc dbrg pck putD List.lookup_cons List.lookup_nil ts2 tb2 zl2 za2 Tryz.underlying2 ts3 tb3 zl3 za3 Tryz.underlying3 ts4 tb4 zl4 za4 Tryz.underlying4 ts5 tb5 zl5 za5 Tryz.underlying5 ts6 tb6 zl6 za6 Tryz.underlying6 ts7 tb7 za7 Tryz.underlying7 ts8 tb8 za8 Tryz.underlying8 ts9 tb9 zl9 za9 Tryz.underlying9 ts10 tb10 zl10 za10 Tryz.underlying10 ts11 tb11 zl11 za11 Tryz.underlying11 ts12 tb12 zl12 za12 Tryz.underlying12 ts13 tb13 za13 Tryz.underlying13 ts14 tb14 za14 Tryz.underlying14 ts18 tb18 za18 Tryz.underlying18 ts19 tb19 za19 Tryz.underlying19 ts21 tb21 zl21 za21 Tryz.underlying21 ts22 tb22 zl22 za22 Tryz.underlying22 ts24 tb24 za24 Tryz.underlying24 ts25 tb25 za25 Tryz.underlying25 ts26 tb26 zl26 za26 Tryz.underlying26 ts27 tb27 za27 Tryz.underlying27 ts28 tb28 za28 Tryz.underlying28 ts30 tb30 zl30 za30 Tryz.underlying30 ts31 tb31 zl31 za31 Tryz.underlying31 ts34 tb34 zl34 za34 Tryz.underlying34 ts35 tb35 zl35 za35 Tryz.underlying35 ts36 tb36 za36 Tryz.underlying36 ts37 tb37 za37 Tryz.underlying37 ts46 tb46 za46 Tryz.underlying46 ts47 tb47 za47 Tryz.underlying47 ts61 tb61 zl61 za61 Tryz.underlying61 ts62 tb62 za62 Tryz.underlying62 ts63 tb63 za63 Tryz.underlying63 ts66 tb66 zl66 za66 Tryz.underlying66 ts68 tb68 zl68 za68 Tryz.underlying68 ts74 tb74 za74 Tryz.underlying74 ts75 tb75 za75 Tryz.underlying75 ts77 tb77 zl77 za77 Tryz.underlying77 ts81 tb81 zl81 za81 Tryz.underlying81 ts82 tb82 za82 Tryz.underlying82 ts83 tb83 za83 Tryz.underlying83 ts86 tb86 zl86 za86 Tryz.underlying86 ts102 tb102 za102 Tryz.underlying102 ts103 tb103 za103 Tryz.underlying103 ts106 tb106 za106 Tryz.underlying106 ts107 tb107 za107 Tryz.underlying107 ts114 tb114 zl114 za114 Tryz.underlying114 ts117 tb117 zl117 za117 Tryz.underlying117 ts120 tb120 zl120 za120 Tryz.underlying120 ts133 tb133 zl133 za133 Tryz.underlying133 ts144 tb144 zl144 za144 Tryz.underlying144 ts151 tb151 zl151 za151 Tryz.underlying151 ts156 tb156 zl156 za156 Tryz.underlying156 ts160 tb160 Tryz.underlying160 ts169 tb169 za169 Tryz.underlying169 ts170 tb170 za170 Tryz.underlying170 ts175 tb175 Tryz.underlying175 ts180 tb180 za180 Tryz.underlying180 ts181 tb181 za181 Tryz.underlying181 ts185 tb185 za185 Tryz.underlying185 ts186 tb186 za186 Tryz.underlying186 ts187 tb187 Tryz.underlying187 ts189 tb189 Tryz.underlying189 ts190 tb190 Tryz.underlying190 ts191 tb191 za191 Tryz.underlying191 ts192 tb192 za192 Tryz.underlying192 ts196 tb196 zl196 za196 Tryz.underlying196 ts197 tb197 zl197 za197 Tryz.underlying197 ts199 tb199 zl199 za199 Tryz.underlying199 ts200 tb200 zl200 za200 Tryz.underlying200 ts201 tb201 za201 Tryz.underlying201 ts202 tb202 za202 Tryz.underlying202

def consW (c : UInt8) : List (List UInt8) → List (List UInt8)
  | [] => [[c]]
  | w :: ws => (c :: w) :: ws
/-- the pieces of a text between blanks -/
def splitW : List UInt8 → List (List UInt8)
  | [] => [[]]
  | c :: r => if c == 32 then [] :: splitW r else consW c (splitW r)
theorem split_idx : ∀ q : List UInt8, (Lib.index q [32] = -1 ∧ splitW q = [q]) ∨ ∃ i : Nat, Lib.index q [32] = i ∧ i < q.length ∧ splitW q = q.take i :: splitW (q.drop (i + 1))
  | [] => .inl ⟨rfl, rfl⟩
  | c :: r => by
    by_cases hc : c = 32
    · subst hc
      exact .inr ⟨0, by simp [Lib.index], by simp, by simp [splitW]⟩
    · have h1 : (c == 32) = false := by simpa using hc
      have h2 : ((32 : UInt8) == c) = false := by simpa using fun e => hc e.symm
      rcases split_idx r with ⟨h3, h4⟩ | ⟨i, h3, h4, h5⟩
      · refine .inl ⟨?_, by simp [splitW, h1, h4, consW]⟩
        simp [Lib.index, h3]
        exact fun e => hc e.symm
      · refine .inr ⟨i + 1, ?_, by simpa using h4, by simp [splitW, h1, h5, consW]⟩
        have : ((i : Int) == -1) = false := by rw [beq_eq_false_iff_ne]; omega
        simp [Lib.index, h3, this]
        exact fun e => (hc e.symm).elim

theorem index_pch {S : Std} (hS : LibOk S) (s p : List UInt8) (hs : s.length < 4294967281) : PcH Tryz.prog S 93 [.str s, .str p] (· = .int .i64 (Lib.index s p)) :=
  pch_lib [_, _] (.int .i64 (Lib.index s p)) hB93 (two_strs s p) (fun h => .int _ _) fun w H => (Any.strings_Index { Tryz.lays144 with } ⟨s.toArray⟩ ⟨p.toArray⟩ _ w hs (hS.cell.choose_spec w H)).mono fun e w' ⟨h1, h2⟩ => ⟨h1, h2 ▸ .refl w⟩

theorem splitSeq_ct (sto : List Blk) (t p : List UInt8) : Ct Tryz.prog 153 [.str t, .str p, .int .i64 0] sto (fun r s => r = .fn (.func 169) [.ptr (sto.length + 1) 1 0 0, .ptr sto.length 1 0 0, .ptr (sto.length + 1 + 1) 1 0 0] ∧ s = sto ++ [.arr 1 [.str t]] ++ [.arr 1 [.str p]] ++ [.arr 1 [.int .i64 0]]) := by
  refine ct_intro Tryz.func153 rfl Tryz.ntmps153 hB153 (by simp) fun h ρ w => go (N := 8) Tryz.ntmps153 300 ?_
  simp only [go_sem, Nat.reduceAdd, Nat.reduceMul, Nat.reduceBEq, Nat.reduceLT, Nat.reduceLeDiff, reduceIte, reduceCtorEq, Int.reduceToNat, Int.reduceLT, Int.reduceGT, Int.reduceNeg, Int.reduceBEq, Int.reduceBNe, List.length_append]
  exact aret [6] rfl ⟨rfl, rfl⟩
theorem splitSeqB_ct (sto : List Blk) (t p : List UInt8) : Ct Tryz.prog 127 [.str t, .str p] sto (fun r s => r = .fn (.func 169) [.ptr (sto.length + 1) 1 0 0, .ptr sto.length 1 0 0, .ptr (sto.length + 1 + 1) 1 0 0] ∧ s = sto ++ [.arr 1 [.str t]] ++ [.arr 1 [.str p]] ++ [.arr 1 [.int .i64 0]]) := by
  refine ct_intro Tryz.func127 rfl Tryz.ntmps127 hB127 (by simp) fun h ρ w => go (N := 8) Tryz.ntmps127 300 ?_
  simp only [go_sem, Nat.reduceAdd, Nat.reduceMul, Nat.reduceBEq, Nat.reduceLT, Nat.reduceLeDiff, reduceIte, reduceCtorEq, Int.reduceToNat, Int.reduceLT, Int.reduceGT, Int.reduceNeg, Int.reduceBEq, Int.reduceBNe]
  refine acall (splitSeq_ct sto t p) (N := 8) Tryz.ntmps127 rfl ?_
  rintro _ _ ⟨rfl, rfl⟩
  refine go (N := 8) Tryz.ntmps127 300 ?_
  simp only [go_sem, Nat.reduceAdd, Nat.reduceMul, Nat.reduceBEq, Nat.reduceLT, Nat.reduceLeDiff, reduceIte, reduceCtorEq, Int.reduceToNat, Int.reduceLT, Int.reduceGT, Int.reduceNeg, Int.reduceBEq, Int.reduceBNe]
  exact aret [4] rfl ⟨rfl, rfl⟩

set_option maxHeartbeats 2000000 in
/-- the iterator hands on the pieces; the part of the text that is left lies in its block 'is' -/
theorem splitSeq_it {St : Std} (hS : LibOk St) (text : List UInt8) (hl : text.length < 100000000) (S : Nat → List UInt8 → List Blk) (ip is iz : Nat) (h1 : ∀ j q, (S j q).getD ip .dead = .arr 1 [.str [32]]) (h2 : ∀ j q, (S j q).getD is .dead = .arr 1 [.str q])
    (h3 : ∀ j q, (S j q).getD iz .dead = .arr 1 [.int .i64 0]) (h4 : ∀ j q q', (S j q).set is (.arr 1 [.str q']) = S j q') :
    ItC Tryz.prog St 169 [.ptr ip 1 0 0, .ptr is 1 0 0, .ptr iz 1 0 0] ((splitW text).map .str) S text := by
  refine itc_intro Tryz.func169 rfl Tryz.ntmps169 hB169 rfl (by simp) fun l c out hP hfn hsto hg hY hfin => ?_
  obtain ⟨P, fn, h, ρ, sto, w, post, x, hx⟩ := c
  simp only at hP hfn hsto hg hY
  subst hP; subst hfn; subst hsto
  refine goR (N := 52) Tryz.ntmps169 300 ?_
  simp only [go_sem, Nat.reduceAdd, Nat.reduceMul, Nat.reduceBEq, Nat.reduceLT, Nat.reduceLeDiff, reduceIte, reduceCtorEq, Int.reduceToNat, Int.reduceLT, Int.reduceGT, Int.reduceNeg, Int.reduceBEq, Int.reduceBNe, runR, contR, brR, step1R, resNR, stopNR, exitNR, dxk, dxkc, dbrk, ↓brR_true, ↓brR_false, ↓dbrk_true, ↓dbrk_false, h1, h2, h3]
  refine aloopR (ι := Nat × List UInt8) (fun y => y.2.length) (fun _ => [(0, .raw (.func (.yield l) #[] #[])), (1, .ptr ip 1 0 0), (2, .ptr is 1 0 0), (3, .ptr iz 1 0 0)]) (fun y => S y.1 y.2)
    (fun y => (splitW text).drop y.1 = splitW y.2 ∧ y.2.length ≤ text.length) (0, text) ⟨rfl, Nat.le_refl _⟩ ?_ ?_
  · refine Shift.weak ?_
    simp only [wk, go_sem, Nat.reduceAdd, Nat.reduceMul, Nat.reduceBEq, Nat.reduceLT, Nat.reduceLeDiff, reduceIte, reduceCtorEq, Int.reduceToNat, Int.reduceLT, Int.reduceGT, Int.reduceNeg, Int.reduceBEq, Int.reduceBNe]
  · rintro ⟨j, q⟩ ⟨g1, g2⟩ J hJ
    simp only at g1 g2 hJ ⊢
    have hidx := index_pch hS q [32] (by omega)
    have hat : ∀ a r, splitW q = a :: r → (List.map AV.str (splitW text))[j]? = some (.str a) := fun a r e => by
      rw [e] at g1
      have : (splitW text)[j]? = some a := by
        have := congrArg (·[0]?) g1
        simpa using this
      simp [this]
    rcases split_idx q with ⟨e1, e2⟩ | ⟨i, e1, e2, e3⟩
    · rw [e1] at hidx
      have hn : (List.map AV.str (splitW text)).length = j + 1 := by
        rw [e2] at g1
        have := congrArg List.length g1
        simp at this ⊢; omega
      refine goR (N := 52) Tryz.ntmps169 300 ?_
      simp only [go_sem, Nat.reduceAdd, Nat.reduceMul, Nat.reduceBEq, Nat.reduceLT, Nat.reduceLeDiff, reduceIte, reduceCtorEq, Int.reduceToNat, Int.reduceLT, Int.reduceGT, Int.reduceNeg, Int.reduceBEq, Int.reduceBNe, runR, contR, brR, step1R, resNR, stopNR, exitNR, dxk, dxkc, dbrk, ↓brR_true, ↓brR_false, ↓dbrk_true, ↓dbrk_false, h1, h2, h3]
      refine pcallHR1 hg (hidx) rfl (N := 52) Tryz.ntmps169 rfl (goR (N := 52) Tryz.ntmps169 300 ?_)
      simp only [go_sem, Nat.reduceAdd, Nat.reduceMul, Nat.reduceBEq, Nat.reduceLT, Nat.reduceLeDiff, reduceIte, reduceCtorEq, Int.reduceToNat, Int.reduceLT, Int.reduceGT, Int.reduceNeg, Int.reduceBEq, Int.reduceBNe, runR, contR, brR, step1R, resNR, stopNR, exitNR, dxk, dxkc, dbrk, ↓brR_true, ↓brR_false, ↓dbrk_true, ↓dbrk_false, h1, h2, h3]
      refine ayield (f := ?f) (x := ?x) (ts := ?ts) (s' := S (j + 1) q) (l := l) ?ho ?hf ?_ ?_
      case ho => rfl
      case hf => rfl
      · intro a1 a2 a3 a4 b1 b2 b3 b4
        exact hY j q (.str q) (hat q [] e2) a1 a2 a3 a4 b1 b2 b3 b4
      refine goR (N := 52) Tryz.ntmps169 300 ?_
      simp only [go_sem, Nat.reduceAdd, Nat.reduceMul, Nat.reduceBEq, Nat.reduceLT, Nat.reduceLeDiff, reduceIte, reduceCtorEq, Int.reduceToNat, Int.reduceLT, Int.reduceGT, Int.reduceNeg, Int.reduceBEq, Int.reduceBNe, runR, contR, brR, step1R, resNR, stopNR, exitNR, dxk, dxkc, dbrk, ↓brR_true, ↓brR_false, ↓dbrk_true, ↓dbrk_false]
      rw [← hn]
      exact AOut.shift (e' := []) (Shift.weak trivial) (hfin .normal q (.inl rfl))
    · rw [e1] at hidx
      have hlt : decide ((i : Int) < 0) = false := by simp
      refine goR (N := 52) Tryz.ntmps169 300 ?_
      simp only [go_sem, Nat.reduceAdd, Nat.reduceMul, Nat.reduceBEq, Nat.reduceLT, Nat.reduceLeDiff, reduceIte, reduceCtorEq, Int.reduceToNat, Int.reduceLT, Int.reduceGT, Int.reduceNeg, Int.reduceBEq, Int.reduceBNe, runR, contR, brR, step1R, resNR, stopNR, exitNR, dxk, dxkc, dbrk, ↓brR_true, ↓brR_false, ↓dbrk_true, ↓dbrk_false, h1, h2, h3]
      refine pcallHR1 hg (hidx) rfl (N := 52) Tryz.ntmps169 rfl (goR (N := 52) Tryz.ntmps169 300 ?_)
      simp only [go_sem, Nat.reduceAdd, Nat.reduceMul, Nat.reduceBEq, Nat.reduceLT, Nat.reduceLeDiff, reduceIte, reduceCtorEq, Int.reduceToNat, Int.reduceLT, Int.reduceGT, Int.reduceNeg, Int.reduceBEq, Int.reduceBNe, runR, contR, brR, step1R, resNR, stopNR, exitNR, dxk, dxkc, dbrk, ↓brR_true, ↓brR_false, ↓dbrk_true, ↓dbrk_false, h1, h2, h3, hlt]
      repeat refine And.intro (by first | omega | exact .inl trivial | (simp; done) | (simp; omega)) ?_
      refine ayield (f := ?f2) (x := ?x2) (ts := ?ts2) (s' := S (j + 1) q) (l := l) ?ho2 ?hf2 ?_ ?_
      case ho2 => rfl
      case hf2 => rfl
      · intro a1 a2 a3 a4 b1 b2 b3 b4
        exact hY j q (.str (q.take i)) (hat _ _ e3) a1 a2 a3 a4 b1 b2 b3 (by simpa [ev, Av.get, Av.put, cutL] using b4)
      refine goR (N := 52) Tryz.ntmps169 300 ?_
      simp only [go_sem, Nat.reduceAdd, Nat.reduceMul, Nat.reduceBEq, Nat.reduceLT, Nat.reduceLeDiff, reduceIte, reduceCtorEq, Int.reduceToNat, Int.reduceLT, Int.reduceGT, Int.reduceNeg, Int.reduceBEq, Int.reduceBNe, runR, contR, brR, step1R, resNR, stopNR, exitNR, dxk, dxkc, dbrk, ↓brR_true, ↓brR_false, ↓dbrk_true, ↓dbrk_false, h1, h2, h3, h4]
      repeat refine And.intro (by first | omega | exact .inl trivial | (simp; done) | (simp; omega)) ?_
      refine ainvR (hJ (j + 1, q.drop (i + 1)) ⟨?_, by simp; omega⟩ (by simp; omega)) (Shift.weak ?_)
      · rw [e3] at g1
        rw [← List.drop_drop, g1]
        rfl
      · simp only [wk, go_sem, Nat.reduceAdd, Nat.reduceMul, Nat.reduceBEq, Nat.reduceLT, Nat.reduceLeDiff, reduceIte, reduceCtorEq, Int.reduceToNat, Int.reduceLT, Int.reduceGT, Int.reduceNeg, Int.reduceBEq, Int.reduceBNe]
end Go.Proofs.YtikbgjhajgjjdaaGreatDoor
