/- strings.Builder: what writing a string does to memory, to the block. Own work of this seat. -/
import Derived.Test.YtpjbbpilgfihbaaGreatDoorZ1
import Derived.Test.YtpjbbpilgfihbaaGreatDoorK4
import Derived.Lib.Builder
import Derived.Lib.AppendStr
import Derived.Lib.UnsafeStr
import Derived.WalkKit
import Derived.Test.YtpjbbpilgfihbaaGreatDoorK3
import Derived.Lib.AtoiErrMem
import Derived.Lib.AppendIntMem
set_option linter.unusedVariables false
set_option linter.unusedSimpArgs false
namespace Go.Proofs.YtpjbbpilgfihbaaGreatDoor
open Go Go.RowKit Go.Lib
open Go.Av (Fr rowOf WriteC StringC)

theorem jb : ∃ j, Tryz.prog.info? 118 = some j ∧ j.size = 2 := Option.map_eq_some_iff.1 (show (Tryz.prog.info? 118).map (·.size) = some 2 by kernel_rfl)

set_option maxRecDepth 100000 in
theorem cc_used (b : Nat) (w : World) (h0 : w.cell? ⟨b, 0, none⟩ = some (.pointer (some ⟨b, 0, none⟩))) :
    Calls Tryz.prog 122 #[.pointer (some ⟨b, 0, none⟩)] w fun e w' => e = .returned (.tuple #[]) ∧ w' = w := by
  obtain ⟨j, hj, hjs⟩ := jb
  go_enter Tryz.func122, Tryz.ntmps122
  go_wp2
  rw [run_neq_ptr_same w _ Tryz.underlying115 hj]
  go_wp2
  go_end0
  exact ⟨rfl, rfl⟩

set_option maxRecDepth 100000 in
theorem cc_fresh (b : Nat) (w : World) (h0 : w.cell? ⟨b, 0, none⟩ = some (.pointer none)) (hsh : w.shape? b = some (118, 2)) (hfz : w.frozen? ⟨b, 0, none⟩ = false) :
    Calls Tryz.prog 122 #[.pointer (some ⟨b, 0, none⟩)] w fun e w' => e = .returned (.tuple #[]) ∧ w' = w.setCell ⟨b, 0, none⟩ (.pointer (some ⟨b, 0, none⟩)) := by
  obtain ⟨j, hj, hjs⟩ := jb
  go_enter Tryz.func122, Tryz.ntmps122
  go_wp2
  rw [run_to_unsafe w ⟨b, 0, none⟩ Tryz.underlying115 Tryz.underlying167 hj (by rw [hjs]; decide) hsh (Nat.zero_lt_succ 1)]
  simp only [Result.andThen]
  rw [Oper.upon_value]
  go_wp2
  rw [run_callFunc_extern Tryz.func154 (by kernel_rfl) (by kernel_rfl) (by kernel_rfl) (e := Extern.AbiNoEscape.same) (by kernel_rfl)]
  rw [run_noEscape]
  simp only [Result.andThen]
  rw [Oper.upon_value]
  go_wp2
  rw [run_from_unsafe w ⟨b, 0, none⟩ Tryz.underlying167 Tryz.underlying115 hj hsh (by kernel_rfl)]
  simp only [Result.andThen]
  rw [Oper.upon_value]
  go_wp2
  go_end0
  exact ⟨rfl, rfl⟩

theorem cc (B b : Nat) (bs : List Value) (w : World) (h : IsBuilder 118 5 B b bs w) : Calls Tryz.prog 122 #[.pointer (some ⟨b, 0, none⟩)] w fun e w' => e = .returned (.tuple #[]) ∧ BuilderAt 118 5 B b (.pointer (some ⟨b, 0, none⟩)) bs w' ∧
    Fr w w' b none ∧ w'.cell? ⟨b, 1, none⟩ = w.cell? ⟨b, 1, none⟩ := by
  rcases h with h | h
  · refine (cc_fresh b w h.cell0 h.shape h.frozen0).mono ?_
    rintro e w' ⟨rfl, rfl⟩
    refine ⟨rfl, h.used _, ⟨rfl, rfl, rfl, by simp [World.setCell], fun k _ hk _ => heap_setCell_other w _ k _ hk⟩, World.cell?_setCell_other _ _ _ _ (by simp)⟩
  · refine (cc_used b w h.cell0).mono ?_
    rintro e w' ⟨rfl, rfl⟩
    exact ⟨rfl, h, ⟨rfl, rfl, rfl, Nat.le_refl _, fun _ _ _ _ => rfl⟩, rfl⟩

/-- where the row stands behind an append of a string's bytes -/
theorem append_block {w : World} {B : Nat} {v v' : Value} {n : Nat} {xs : List Value} {s : ByteArray} {ty : TypeId} {w' : World} {i : TypeInfo} (hi : Tryz.prog.info? 5 = some i) (hz : i.zero = some (.int .u8 0)) (hsize : i.size = 1) (hby : i.bytes = 1)
    (hown : w.ownsRow B 5 1 v n xs) (h63 : n + s.size ≤ maxLen) (hb : n + s.size ≤ 140737488355328) (hB : B ≤ w.heap.size) (hr : (Builtin.append_ #[116, 9] ty #[v, .string s]).run Tryz.prog w = .ok v' w') :
    v'.ownBlock = none ∨ v'.ownBlock = v.ownBlock ∨ v'.ownBlock = some w.heap.size := by
  have hm63 : n + s.size ≤ 9223372036854775807 := by unfold maxLen at h63; omega
  have hxl : xs.length = n := by simpa using hown.1
  obtain ⟨v1, w1, hr1, _, _, h4⟩ := run_append_own_string (P := Tryz.prog) w B 116 9 ty 5 i Tryz.underlying116 Tryz.underlying9 hi hz hsize hby v n xs hown s h63 hb hB
  rw [hr] at hr1
  obtain ⟨rfl, _⟩ : v' = v1 ∧ w' = w1 := by simpa using hr1
  rcases hown.2 with ⟨rfl, rfl⟩ | ⟨g, cap, cur, rfl, hbg, hg, hnc, hcm, hcs, htake⟩
  · by_cases hm : s.size = 0
    · rw [h4.2 ⟨rfl, hm⟩]; exact .inl rfl
    · have h := run_append_nil_string (P := Tryz.prog) w 116 9 ty 5 i (.int .u8 0) Tryz.underlying116 Tryz.underlying9 hi hz s (by omega) (by omega) (by rw [hby]; omega)
      rw [hr] at h
      have : v' = .slice (some ⟨w.heap.size, 0, none⟩) s.size (grownCap w s.size 0 5) := (show v' = _ ∧ w' = _ by simpa using h).1
      rw [this]; exact .inr (.inr rfl)
  · by_cases hroom : n + s.size ≤ cap
    · have h := run_append_room_string (P := Tryz.prog) w 116 9 ty 5 i Tryz.underlying116 Tryz.underlying9 hi hsize g n cap cur hg s hroom (by omega)
      rw [hr] at h
      have : v' = .slice (some ⟨g, 0, none⟩) (n + s.size) cap := (show v' = _ ∧ w' = _ by simpa using h).1
      rw [this]; exact .inr (.inl rfl)
    · have h := run_append_grow_string (P := Tryz.prog) w 116 9 ty 5 i (.int .u8 0) Tryz.underlying116 Tryz.underlying9 hi hz ⟨g, 0, none⟩ n cap xs (by rw [hsize]; simpa using hxl) (hown.cells (g := g) rfl) s (by omega) (by omega) (by rw [hby]; exact growslice_fits (by omega) (by omega))
      rw [hr] at h
      have : v' = .slice (some ⟨w.heap.size, 0, none⟩) (n + s.size) (grownCap w (n + s.size) cap 5) := (show v' = _ ∧ w' = _ by simpa using h).1
      rw [this]; exact .inr (.inr rfl)

/-- the operation, for the walk -/
theorem wpList_append {w : World} {ops : Array Oper} {rest : List Oper} {o : Oper} {a : Act} {Q : Exit → Act → World → Prop} (hgd : o.guard = none) (sl x : Operand)
    (ho : o.op = .call { callee := .builtin .append, args := #[sl, x], argTypes := #[116, 9] }) (B : Nat) (i : TypeInfo) (hi : Tryz.prog.info? 5 = some i) (hz : i.zero = some (.int .u8 0)) (hsize : i.size = 1) (hby : i.bytes = 1)
    (v : Value) (n : Nat) (xs : List Value) (hs : a.eval sl = v) (hown : w.ownsRow B 5 1 v n xs) (s : ByteArray) (hx : a.eval x = .string s) (h63 : n + s.size ≤ maxLen) (hb : n + s.size ≤ 140737488355328) (hB : B ≤ w.heap.size)
    (h : ∀ v' w', w'.ownsRow B 5 1 v' (n + s.size) (xs ++ strCells s) → w.grownBy w' v.ownBlock → (v'.ownBlock = none ∨ v'.ownBlock = v.ownBlock ∨ v'.ownBlock = some w.heap.size) → wpList Tryz.prog ops Q rest (a.put o.dst v') w') : wpList Tryz.prog ops Q (o :: rest) a w := by
  refine wpList_plain hgd fun K hK => ?_
  obtain ⟨v', w', hr, h2, h3, _⟩ := run_append_own_string (P := Tryz.prog) w B 116 9 o.type 5 i Tryz.underlying116 Tryz.underlying9 hi hz hsize hby v n xs hown s h63 hb hB
  have hbk := append_block hi hz hsize hby hown h63 hb hB hr
  unfold Oper.wp execOp
  simp only [ho, resolve, invoke, builtin, Sem.run_bind, Sem.run_pure, Result.andThen_ok, List.map_toArray, List.map_cons, List.map_nil, hs, hx, hr]
  exact hK _ _ (h v' w' h2 h3 hbk)

set_option maxHeartbeats 2000000 in
set_option maxRecDepth 100000 in
/-- what WriteString does -/
theorem wstr (B b : Nat) (bs : List Value) (s : ByteArray) (w : World) (h : IsBuilder 118 5 B b bs w) (hlen : bs.length + s.size ≤ 140737488355328) (hBw : B ≤ w.heap.size) :
    Calls Tryz.prog 80 #[.pointer (some ⟨b, 0, none⟩), .string s] w fun e w' => e = .returned (.tuple #[.int .i64 s.size, .nilIface]) ∧ BuilderAt 118 5 B b (.pointer (some ⟨b, 0, none⟩)) (bs ++ strCells s) w' ∧
      Fr w w' b (rowOf w b) ∧ ∀ r, rowOf w' b = some r → rowOf w b = some r ∨ w.heap.size ≤ r := by
  obtain ⟨i0, hi, hz0, hz1, hz2⟩ := info_parts Tryz.Builder_Extra_169.infoByte
  go_enter Tryz.func80, Tryz.ntmps80
  go_wp2_with (go_at_call 122; refine (cc B b bs _ h).mono ?_)
  rintro e w1 ⟨rfl, h1, hf, hc1⟩
  obtain ⟨hB, v, hbk, hown, hne⟩ := h1
  have c0 : w1.cell? ⟨b, 0, none⟩ = some (.pointer (some ⟨b, 0, none⟩)) := by rw [cell_of_heap hbk]; rfl
  have c1 : w1.cell? ⟨b, 1, none⟩ = some v := by rw [cell_of_heap hbk]; rfl
  have hrow : rowOf w b = v.ownBlock := by rw [rowOf, ← hc1, c1]; rfl
  clear hc1
  go_wp2_with (at_builtin; refine wpList_append rfl _ _ rfl B i0 hi hz0 hz1 hz2 _ _ _ rfl hown s rfl ?c3 ?c4 ?c5 ?_)
  case c3 => unfold maxLen; omega
  case c4 => omega
  case c5 => have := hf.size; omega
  intro v' w2 hown' hgrow hblk
  have hlt : b < w1.heap.size := by
    rcases Nat.lt_or_ge b w1.heap.size with h' | h'
    · exact h'
    · simp [Array.getElem?_eq_none h'] at hbk
  have hb2 : w2.heap[b]? = some (.cells #[.pointer (some ⟨b, 0, none⟩), v] 118 (0, 0)) := by
    rw [hgrow.block b hlt (fun e => hne e.symm)]
    exact hbk
  have d0 : w2.cell? ⟨b, 0, none⟩ = some (.pointer (some ⟨b, 0, none⟩)) := by rw [cell_of_heap hb2]; rfl
  have d1 : w2.cell? ⟨b, 1, none⟩ = some v := by rw [cell_of_heap hb2]; rfl
  have f1 : w2.frozen? ⟨b, 1, none⟩ = false := frozen_of_heap hb2 1
  obtain ⟨ao, n', cap, rfl⟩ : ∃ ao n' cap, v' = .slice ao n' cap := by
    rcases hown'.2 with ⟨hv, _⟩ | ⟨g, cap, cur, hv, _⟩
    · exact ⟨_, _, _, hv⟩
    · exact ⟨_, _, _, hv⟩
  go_wp2
  go_ret2
  refine ⟨rfl, BuilderAt.put (T := 118) (e := 5) hB hb2 (bs' := bs ++ strCells s) (by simpa [strCells_length] using hown') (by decide), ?_⟩
  have hw2 : rowOf (w2.setCell ⟨b, 1, none⟩ (.slice ao n' cap)) b = Value.ownBlock (.slice ao n' cap) := by
    rw [rowOf, World.cell?_setCell_same _ _ _ d1]; rfl
  rw [hrow]
  refine ⟨⟨(hgrow.os.trans hf.os), (hgrow.tape.trans hf.tape), (hgrow.output.trans hf.output), by have := hf.size; have := hgrow.size; simp [World.setCell]; omega, fun k hk hkb hkr => by
    rw [heap_setCell_other _ _ k _ hkb, hgrow.block k (by have := hf.size; omega) hkr, hf.block k hk hkb (by simp)]⟩, fun r hr => ?_⟩
  rw [hw2] at hr
  rcases hblk with h | h | h
  · rw [h] at hr; cases hr
  · rw [h] at hr; exact .inl hr
  · rw [h] at hr
    have := hf.size
    simp at hr
    exact .inr (by omega)

theorem write_c : WriteC Tryz.prog 80 118 5 := ⟨hB80, fun B b bs s w h h1 h2 => wstr B b bs s w h h1 h2⟩
theorem string_c : StringC Tryz.prog 82 118 5 := ⟨hB82, fun B b l w h h2 => Any.Builder_String_any Tryz.lays169 Tryz.Builder_Extra_169 B b l w h h2⟩
end Go.Proofs.YtpjbbpilgfihbaaGreatDoor
/- Functions of package strings, out of the library's contracts. Own work of this seat. -/
set_option linter.unusedSimpArgs false
set_option linter.unusedVariables false
namespace Go.Proofs.YtpjbbpilgfihbaaGreatDoor
open Go Go.Av Go.RowKit

theorem pch_lib {g : Std} {f : FuncId} {args : List AV} {r : AV} (vs : List Value) (v : Value) (hb : hasBody Tryz.prog f = true) (ha : ∀ h vs', RL h Lf0 true vs' args → vs' = vs) (hr : ∀ h, RV h Lf0 true v r)
    (H : ∀ w, Stands g w → Calls Tryz.prog f vs.toArray w fun e w' => e = .returned v ∧ Same w w') : PcH Tryz.prog g f args (· = r) := by
  refine ⟨hb, fun h w vs' hg hm hv => ?_⟩
  have := ha h vs' hv
  subst this
  refine (H w hg).mono ?_
  rintro e w' ⟨rfl, hs⟩
  exact ⟨v, r, h, rfl, rfl, fun b o v e => ⟨hs.cell (hm b o v e).1, (hm b o v e).2⟩, fun _ _ _ x => x, fun b o e n => (n e).elim, hs, hr h⟩
theorem pc_lib {f : FuncId} {args : List AV} {r : AV} (vs : List Value) (v : Value) (hb : hasBody Tryz.prog f = true) (ha : ∀ h vs', RL h Lf0 true vs' args → vs' = vs) (hr : ∀ h, RV h Lf0 true v r)
    (H : ∀ w, Calls Tryz.prog f vs.toArray w fun e w' => e = .returned v ∧ Same w w') : Pc Tryz.prog f args (· = r) := by
  refine ⟨hb, fun h w vs' hm hv => ?_⟩
  have := ha h vs' hv
  subst this
  refine (H w).mono ?_
  rintro e w' ⟨rfl, hs⟩
  exact ⟨v, r, h, rfl, rfl, fun b o v e => ⟨hs.cell (hm b o v e).1, (hm b o v e).2⟩, fun _ _ _ x => x, fun b o e n => (n e).elim, hs, hr h⟩

theorem rv_str {h : Mem} {v : Value} {s : List UInt8} (r : RV h Lf0 true v (.str s)) : v = .string ⟨s.toArray⟩ := by cases r with | str => rfl
theorem rv_int {h : Mem} {v : Value} {k : IntKind} {n : Int} (r : RV h Lf0 true v (.int k n)) : v = .int k n := by cases r with | int => rfl
theorem two_strs (s p : List UInt8) : ∀ h vs', RL h Lf0 true vs' [.str s, .str p] → vs' = [.string ⟨s.toArray⟩, .string ⟨p.toArray⟩] := by
  intro h vs' r
  cases r with | cons r1 r => cases r with | cons r2 r => cases r; rw [rv_str r1, rv_str r2]


theorem cutPrefix_pc (s p : List UInt8) : Pc Tryz.prog 64 [.str s, .str p] (· = .tup [.str (Lib.trimPrefix s p), .bool (Lib.hasPrefix s p)]) :=
  pc_lib [_, _] (.tuple #[.string ⟨(Lib.trimPrefix s p).toArray⟩, .bool (Lib.hasPrefix s p)]) hB64 (two_strs s p) (fun h => .tup [_, _] [_, _] (.cons (.str _) (.cons (.bool _) .nil)))
    fun w => (Any.strings_CutPrefix Tryz.lays103 ⟨s.toArray⟩ ⟨p.toArray⟩ w).mono fun e w' ⟨h1, h2⟩ => ⟨h1, h2 ▸ .refl w⟩
theorem hasPrefix_pc (s p : List UInt8) : Pc Tryz.prog 79 [.str s, .str p] (· = .bool (Lib.hasPrefix s p)) :=
  pc_lib [_, _] (.bool (Lib.hasPrefix s p)) hB79 (two_strs s p) (fun h => .bool _) fun w => (Any.strings_HasPrefix Tryz.lays99 ⟨s.toArray⟩ ⟨p.toArray⟩ w).mono fun e w' ⟨h1, h2⟩ => ⟨h1, h2 ▸ .refl w⟩
theorem hasSuffix_pc (s p : List UInt8) (hs : s.length ≤ 9223372036854775807) : Pc Tryz.prog 56 [.str s, .str p] (· = .bool (Lib.hasSuffix s p)) :=
  pc_lib [_, _] (.bool (Lib.hasSuffix s p)) hB56 (two_strs s p) (fun h => .bool _) fun w => (Any.strings_HasSuffix Tryz.lays100 ⟨s.toArray⟩ ⟨p.toArray⟩ w hs).mono fun e w' ⟨h1, h2⟩ => ⟨h1, h2 ▸ .refl w⟩
theorem lastIndex_pc (s p : List UInt8) (hs : s.length < 4611686018427387904) : Pc Tryz.prog 170 [.str s, .str p] (· = .int .i64 (Lib.lastIndex s p)) :=
  pc_lib [_, _] (.int .i64 (Lib.lastIndex s p)) hB170 (two_strs s p) (fun h => .int _ _) fun w => (Any.strings_LastIndex Tryz.lays148 ⟨s.toArray⟩ ⟨p.toArray⟩ hs w).mono fun e w' ⟨h1, h2⟩ => ⟨h1, h2 ▸ .refl w⟩
theorem indexByte_pc (s : List UInt8) (c : Int) : Pc Tryz.prog 119 [.str s, .int .u8 c] (· = .int .i64 (Lib.indexByte s c.toNat.toUInt8)) :=
  pc_lib [.string ⟨s.toArray⟩, .int .u8 c] (.int .i64 (Lib.indexByte s c.toNat.toUInt8)) hB119 (fun h vs' r => by cases r with | cons r1 r => cases r with | cons r2 r => cases r; rw [rv_str r1, rv_int r2]) (fun h => .int _ _)
    fun w => (Any.strings_IndexByte Tryz.lays137 ⟨s.toArray⟩ c w).mono fun e w' ⟨h1, h2⟩ => ⟨h1, h2 ▸ .refl w⟩


theorem contains_pch {S : Std} (hS : LibOk S) (s p : List UInt8) (hs : s.length < 4294967281) : PcH Tryz.prog S 115 [.str s, .str p] (· = .bool (Lib.contains s p)) :=
  pch_lib [_, _] (.bool (Lib.contains s p)) hB115 (two_strs s p) (fun h => .bool _) fun w H => (Any.strings_Contains Tryz.lays144 ⟨s.toArray⟩ ⟨p.toArray⟩ _ w hs (hS.cell.choose_spec w H)).mono fun e w' ⟨h1, h2⟩ => ⟨h1, h2 ▸ .refl w⟩

theorem same_drewN (w : World) : ∀ n, Same w (w.drewN n) := fun n => ⟨rfl, rfl, rfl, Nat.le_refl _, fun _ _ => rfl⟩

theorem cut_pch {S : Std} (hS : LibOk S) (s p : List UInt8) (hs : s.length < 4294967281) : PcH Tryz.prog S 169 [.str s, .str p] (· = .tup [.str (Lib.cut s p).1, .str (Lib.cut s p).2.1, .bool (Lib.cut s p).2.2]) :=
  pch_lib [_, _] (.tuple #[.string ⟨(Lib.cut s p).1.toArray⟩, .string ⟨(Lib.cut s p).2.1.toArray⟩, .bool (Lib.cut s p).2.2]) hB169 (two_strs s p) (fun h => .tup [_, _, _] [_, _, _] (.cons (.str _) (.cons (.str _) (.cons (.bool _) .nil))))
    fun w H => (Any.strings_Cut Tryz.lays145 ⟨s.toArray⟩ ⟨p.toArray⟩ _ w hs (hS.cell.choose_spec w H)).mono fun e w' ⟨h1, n, h2⟩ => ⟨h1, h2 ▸ same_drewN w n⟩

/-- the pieces of a text, as lists of bytes -/
def splitL (s p : List UInt8) : List (List UInt8) := (Lib.splitB ⟨p.toArray⟩ 0 (Lib.countB ⟨s.toArray⟩ ⟨p.toArray⟩) ⟨s.toArray⟩).map (·.data.toList)

theorem split_pch {S : Std} (hS : LibOk S) (s p : List UInt8) (hs : s.length < 4294967281) (hp : 1 ≤ p.length) : PcH Tryz.prog S 62 [.str s, .str p] (· = .fz 1 (splitL s p |>.map .str)) := by
  refine ⟨hB62, fun h w vs' hg hm hv => ?_⟩
  have := two_strs s p h vs' hv
  subst this
  refine (Any.strings_Split Tryz.lays146 (by kernel_rfl) ⟨s.toArray⟩ ⟨p.toArray⟩ _ w hs (hS.cell.choose_spec w hg) hp).mono ?_
  rintro e w' ⟨rfl, rfl⟩
  have hlen := Lib.splitB_all ⟨p.toArray⟩ hp 0 _ ⟨s.toArray⟩ rfl
  generalize hL : Lib.splitB ⟨p.toArray⟩ 0 (Lib.countB ⟨s.toArray⟩ ⟨p.toArray⟩) ⟨s.toArray⟩ = L at hlen ⊢
  have hsl : splitL s p = L.map (·.data.toList) := by rw [splitL, hL]
  have hval : L.map Value.string = (splitL s p).map sval := by
    rw [hsl, List.map_map]; rfl
  rw [hval, ← hlen, show L.length = (splitL s p).length by rw [hsl]; simp]
  have h1 : ∀ v ∈ (splitL s p).map sval, v.oneCell' = true := by intro v hv; obtain ⟨x, _, rfl⟩ := List.mem_map.1 hv; rfl
  have hmine : Mine h (fun _ => none) [] w := ⟨hm, fun id blk e => by simp at e, fun _ _ => rfl, fun i j g t t' e => by simp at e, fun i g t e => by simp at e⟩
  obtain ⟨m2, l2⟩ := hmine.freezeNew ((splitL s p).map sval) 9 h1
  refine ⟨_, _, Mem.add h w.heap.size ((splitL s p).map sval), rfl, rfl, m2.mem, l2.hle, fun b o e n => ?_, .alloc w _, ?_⟩
  · rcases l2.hnew b o e n with ⟨j, t, hj⟩ | hs
    · cases hj
    · exact hs
  · have := RV.fz (h := Mem.add h w.heap.size ((splitL s p).map sval)) (Lf := Lf0) (fl := true) w.heap.size 0 (splitL s p).length 1 ((splitL s p).map .str) ((splitL s p).map sval) ?_ (by simp [cellsOf]) ?_ (by simp)
    · simpa using this
    · rw [flat_strs]
      generalize Mem.add h w.heap.size ((splitL s p).map sval) = hh
      generalize splitL s p = z
      induction z with
      | nil => exact .nil
      | cons x z ih => exact .cons (.str x) ih
    · intro k v hv
      simp only [Mem.add, Nat.zero_add, if_true]
      exact hv
end Go.Proofs.YtpjbbpilgfihbaaGreatDoor
/- What strings are: plain, proper, sets. Own work of this seat. -/
set_option maxRecDepth 100000
set_option linter.unusedSimpArgs false
set_option linter.unusedVariables false
namespace Go.Proofs.YtpjbbpilgfihbaaGreatDoor
open Go Go.Av Go.RowKit
attribute [local go_sem ↓] br_true br_false dbr_true dbr_false dbri_true dbri_false dbrg_true dbrg_false
attribute [local go_sem] run cont br dbr dx dxc dgrd dyld dres dcall calm fieldPlace? allHas step1 opN grdN resN condN exitN stopN exitIt dOk xop xbin xint xarith xstr xbool xpick xnot xneg xextract xpart xpartOk xindex xfieldF fieldD xnew xbox xalloc xfieldAddr xptrAddIf xindexAddr xloadC xload putCells reElem xstoreB xstore xconv xtext xlen xlen2 xcall xfill xbuild cut rep xbuildSlice xbuildSliceD isRow elemD isU8 ev evs evp Go.Av.put Go.Av.get ofConst yldD yldV notBool_undef args0 cellsOf cond_true cond_false decide_true decide_false decide_eq_true_eq decide_eq_false_iff_not List.getElem?_cons_zero List.getElem?_cons_succ List.getElem?_nil List.getD_cons_zero List.getD_cons_succ List.getD_nil List.set_cons_zero List.set_cons_succ List.length_cons List.length_nil List.cons_append List.nil_append List.append_nil List.all_cons List.all_nil List.map_cons List.map_nil List.take_succ_cons List.take_zero List.drop_succ_cons List.drop_zero Bool.and_true Bool.true_and Bool.and_self Bool.and_false Bool.false_and one Go.Av.frozen beq_self_eq_true true_and and_true forall_const false_implies implies_true and_self Option.map_some Option.map_none Nat.zero_add Nat.add_zero Nat.zero_mul Nat.mul_one Nat.one_mul Int.toNat_zero ne_eq not_false_eq_true not_true_eq_false Bool.true_eq_false Bool.false_eq_true List.toList_toArray inr Go.Av.byteOf isByte decide_eq_decide Bool.not_true Bool.not_false Bool.not_eq_true' Bool.or_true Bool.true_or Bool.or_false Bool.false_or ge_iff_le gt_iff_lt and_assoc Bool.decide_eq_true beq_iff_eq beq_eq_false_iff_ne bne_iff_ne bne_self_eq_false if_true if_false Bool.and_eq_true Bool.or_eq_true Bool.and_eq_false_imp Bool.or_eq_false_iff Bool.not_eq_false' has Option.isSome_some Option.isSome_none Int.toNat_natCast Int.cast_ofNat_Int List.length_append xapp2 xapp xappS xappD xappB notInt srcOf srcB byteAV splice' xcut xcutS xcutF xcutB xcutN xcut0 cutL loOf hiOf evo xmake zelem xmax xcopy2 xcopyS xcopyB xnil xcut3 ixOf xclear2 xclearB List.getElem?_toArray xbin2 xnileq xempty xmkmap xmput xmputB xmputF isKey keyEq mfind xbin3 xeqs xeqop eqFs bothB leafEq xlook xlookB xlookF xbytes beq_c_n beq_n_c bne_c_n bne_n_c one_nil dxi dxic dbri rix dck reader blind opOk refOk Go.Op.operands Go.Call.operands List.contains_cons List.contains_nil dxg dxgc dbrg pck putD List.lookup_cons List.lookup_nil ts2 tb2 zl2 za2 Tryz.underlying2 ts3 tb3 zl3 za3 Tryz.underlying3 ts4 tb4 zl4 za4 Tryz.underlying4 ts5 tb5 zl5 za5 Tryz.underlying5 ts6 tb6 zl6 za6 Tryz.underlying6 ts7 tb7 za7 Tryz.underlying7 ts8 tb8 za8 Tryz.underlying8 ts9 tb9 zl9 za9 Tryz.underlying9 ts10 tb10 zl10 za10 Tryz.underlying10 ts11 tb11 zl11 za11 Tryz.underlying11 ts12 tb12 zl12 za12 Tryz.underlying12 ts13 tb13 za13 Tryz.underlying13 ts14 tb14 za14 Tryz.underlying14 ts18 tb18 za18 Tryz.underlying18 ts19 tb19 za19 Tryz.underlying19 ts21 tb21 zl21 za21 Tryz.underlying21 ts22 tb22 zl22 za22 Tryz.underlying22 ts24 tb24 za24 Tryz.underlying24 ts25 tb25 za25 Tryz.underlying25 ts27 tb27 zl27 za27 Tryz.underlying27 ts35 tb35 zl35 za35 Tryz.underlying35 ts36 tb36 za36 Tryz.underlying36 ts37 tb37 za37 Tryz.underlying37 ts39 tb39 zl39 za39 Tryz.underlying39 ts41 tb41 za41 Tryz.underlying41 ts42 tb42 za42 Tryz.underlying42 ts63 tb63 zl63 za63 Tryz.underlying63 ts64 tb64 zl64 za64 Tryz.underlying64 ts65 tb65 za65 Tryz.underlying65 ts66 tb66 za66 Tryz.underlying66 ts67 tb67 zl67 za67 Tryz.underlying67 ts69 tb69 za69 Tryz.underlying69 ts70 tb70 za70 Tryz.underlying70 ts73 tb73 za73 Tryz.underlying73 ts74 tb74 za74 Tryz.underlying74 ts75 tb75 zl75 za75 Tryz.underlying75 ts82 tb82 zl82 za82 Tryz.underlying82 ts96 tb96 za96 Tryz.underlying96 ts97 tb97 za97 Tryz.underlying97 ts103 tb103 za103 Tryz.underlying103 ts104 tb104 za104 Tryz.underlying104 ts109 tb109 zl109 za109 Tryz.underlying109 ts116 tb116 zl116 za116 Tryz.underlying116 ts117 tb117 za117 Tryz.underlying117 ts118 tb118 za118 Tryz.underlying118 ts120 tb120 zl120 za120 Tryz.underlying120 ts124 tb124 zl124 za124 Tryz.underlying124 ts126 tb126 za126 Tryz.underlying126 ts128 tb128 zl128 za128 Tryz.underlying128 ts130 tb130 za130 Tryz.underlying130 ts131 tb131 za131 Tryz.underlying131 ts153 tb153 zl153 za153 Tryz.underlying153 ts167 tb167 zl167 za167 Tryz.underlying167 ts171 tb171 zl171 za171 Tryz.underlying171 ts177 tb177 zl177 za177 Tryz.underlying177 ts183 tb183 zl183 za183 Tryz.underlying183 ts189 tb189 zl189 za189 Tryz.underlying189 ts191 tb191 zl191 za191 Tryz.underlying191 ts195 tb195 za195 Tryz.underlying195 ts196 tb196 za196 Tryz.underlying196 ts198 tb198 zl198 za198 Tryz.underlying198 ts203 tb203 Tryz.underlying203 ts209 tb209 za209 Tryz.underlying209 ts210 tb210 za210 Tryz.underlying210 ts211 tb211 Tryz.underlying211 ts216 tb216 za216 Tryz.underlying216 ts217 tb217 za217 Tryz.underlying217 ts220 tb220 Tryz.underlying220 ts225 tb225 Tryz.underlying225 ts226 tb226 Tryz.underlying226 ts227 tb227 za227 Tryz.underlying227 ts228 tb228 za228 Tryz.underlying228 ts232 tb232 zl232 za232 Tryz.underlying232 ts233 tb233 zl233 za233 Tryz.underlying233 ts235 tb235 zl235 za235 Tryz.underlying235 ts236 tb236 zl236 za236 Tryz.underlying236 ts237 tb237 za237 Tryz.underlying237 ts238 tb238 za238 Tryz.underlying238


def digI (n : Int) : Bool := decide (n ≥ 48) && decide (n ≤ 57)
def capI (n : Int) : Bool := decide (n ≥ 65) && decide (n ≤ 90)

theorem isDigit_pc (n : Int) : Pc Tryz.prog 54 [.int .u8 n] (· = .bool (digI n)) := by
  refine pc_intro (ct_intro Tryz.func54 rfl Tryz.ntmps54 hB54 (by simp) fun h ρ w => go (N := 9) Tryz.ntmps54 200 ?_)
  by_cases h1 : n ≥ 48
  · have d1 : decide (n ≥ 48) = true := by simpa using h1
    simp only [go_sem, Nat.reduceAdd, Nat.reduceMul, Nat.reduceSub, Nat.reduceBEq, Nat.reduceLT, Nat.reduceLeDiff, reduceIte, reduceCtorEq, Int.reduceToNat, Int.reduceLE, Int.reduceLT, Int.reduceNe, Int.reduceMul, Int.reduceAdd, Int.reduceSub, Int.reduceDiv, Int.reduceMod, Int.reduceEq, Int.reduceGE, Int.reduceGT, Int.reduceNeg, Int.reduceBEq, Int.reduceBNe, Nat.reduceEqDiff, d1]
    exact aret [2] rfl ⟨by simp [resV, Av.get, digI, h1], rfl⟩
  · have d1 : decide (n ≥ 48) = false := by simpa using h1
    simp only [go_sem, Nat.reduceAdd, Nat.reduceMul, Nat.reduceSub, Nat.reduceBEq, Nat.reduceLT, Nat.reduceLeDiff, reduceIte, reduceCtorEq, Int.reduceToNat, Int.reduceLE, Int.reduceLT, Int.reduceNe, Int.reduceMul, Int.reduceAdd, Int.reduceSub, Int.reduceDiv, Int.reduceMod, Int.reduceEq, Int.reduceGE, Int.reduceGT, Int.reduceNeg, Int.reduceBEq, Int.reduceBNe, Nat.reduceEqDiff, d1]
    exact aret [2] rfl ⟨by simp [resV, Av.get, digI, h1], rfl⟩

theorem isCapital_pc (n : Int) : Pc Tryz.prog 55 [.int .u8 n] (· = .bool (capI n)) := by
  refine pc_intro (ct_intro Tryz.func55 rfl Tryz.ntmps55 hB55 (by simp) fun h ρ w => go (N := 9) Tryz.ntmps55 200 ?_)
  by_cases h1 : n ≥ 65
  · have d1 : decide (n ≥ 65) = true := by simpa using h1
    simp only [go_sem, Nat.reduceAdd, Nat.reduceMul, Nat.reduceSub, Nat.reduceBEq, Nat.reduceLT, Nat.reduceLeDiff, reduceIte, reduceCtorEq, Int.reduceToNat, Int.reduceLE, Int.reduceLT, Int.reduceNe, Int.reduceMul, Int.reduceAdd, Int.reduceSub, Int.reduceDiv, Int.reduceMod, Int.reduceEq, Int.reduceGE, Int.reduceGT, Int.reduceNeg, Int.reduceBEq, Int.reduceBNe, Nat.reduceEqDiff, d1]
    exact aret [2] rfl ⟨by simp [resV, Av.get, capI, h1], rfl⟩
  · have d1 : decide (n ≥ 65) = false := by simpa using h1
    simp only [go_sem, Nat.reduceAdd, Nat.reduceMul, Nat.reduceSub, Nat.reduceBEq, Nat.reduceLT, Nat.reduceLeDiff, reduceIte, reduceCtorEq, Int.reduceToNat, Int.reduceLE, Int.reduceLT, Int.reduceNe, Int.reduceMul, Int.reduceAdd, Int.reduceSub, Int.reduceDiv, Int.reduceMod, Int.reduceEq, Int.reduceGE, Int.reduceGT, Int.reduceNeg, Int.reduceBEq, Int.reduceBNe, Nat.reduceEqDiff, d1]
    exact aret [2] rfl ⟨by simp [resV, Av.get, capI, h1], rfl⟩

def okB (c : UInt8) : Bool := !(decide ((c.toNat : Int) < 32)) && !(decide ((c.toNat : Int) > 126))
def plainL (s : List UInt8) : Bool := s.all okB && (!Lib.hasPrefix s [32] && (!Lib.hasSuffix s [32] && !Lib.contains s [32, 32]))

theorem all_take_succ {α : Type} {p : α → Bool} {s : List α} {i : Nat} (h : i < s.length) (h1 : (s.take i).all p = true) (h2 : p s[i] = true) : (s.take (i + 1)).all p = true := by
  rw [List.take_succ_eq_append_getElem h, List.all_append, h1]
  simpa using h2
theorem all_false_at {α : Type} {p : α → Bool} {s : List α} {i : Nat} (h : i < s.length) (h2 : p s[i] = false) : s.all p = false := by
  rw [List.all_eq_false]
  exact ⟨s[i], List.getElem_mem h, by simp [h2]⟩

theorem plain_pch {S : Std} (hS : LibOk S) (s : List UInt8) (hs : s.length < 1000000) : PcH Tryz.prog S 71 [.str s] (· = .bool (plainL s)) := by
  refine pch_intro (cth_intro Tryz.func71 rfl Tryz.ntmps71 hB71 (by simp) fun h ρ w hg => go (N := 33) Tryz.ntmps71 200 ?_)
  simp only [go_sem, Nat.reduceAdd, Nat.reduceMul, Nat.reduceSub, Nat.reduceBEq, Nat.reduceLT, Nat.reduceLeDiff, reduceIte, reduceCtorEq, Int.reduceToNat, Int.reduceLE, Int.reduceLT, Int.reduceNe, Int.reduceMul, Int.reduceAdd, Int.reduceSub, Int.reduceDiv, Int.reduceMod, Int.reduceEq, Int.reduceGE, Int.reduceGT, Int.reduceNeg, Int.reduceBEq, Int.reduceBNe, Nat.reduceEqDiff]
  refine aloop (ι := Nat) (fun i => s.length - i) (fun i => [(6, .int .i64 i), (5, .int .i64 s.length), (0, .str s)]) (fun _ => []) (fun i => i ≤ s.length ∧ (s.take i).all okB = true) 0 ⟨by omega, by simp⟩ ?_ ?_
  · refine Shift.weak ?_
    simp only [wk, go_sem, Nat.reduceAdd, Nat.reduceMul, Nat.reduceSub, Nat.reduceBEq, Nat.reduceLT, Nat.reduceLeDiff, reduceIte, reduceCtorEq, Int.reduceToNat, Int.reduceLE, Int.reduceLT, Int.reduceNe, Int.reduceMul, Int.reduceAdd, Int.reduceSub, Int.reduceDiv, Int.reduceMod, Int.reduceEq, Int.reduceGE, Int.reduceGT, Int.reduceNeg, Int.reduceBEq, Int.reduceBNe, Nat.reduceEqDiff]
  · rintro i ⟨g1, g2⟩ J hJ
    refine go (N := 33) Tryz.ntmps71 200 ?_
    by_cases hi : (i : Int) < s.length
    · have hil : i < s.length := by omega
      have hgd : s.getD i 0 = s[i] := by simp [List.getD, hil]
      by_cases hc1 : ((s[i].toNat : Int) < 32)
      · have d1 : decide ((s[i].toNat : Int) < 32) = true := by simpa using hc1
        simp only [go_sem, Nat.reduceAdd, Nat.reduceMul, Nat.reduceSub, Nat.reduceBEq, Nat.reduceLT, Nat.reduceLeDiff, reduceIte, reduceCtorEq, Int.reduceToNat, Int.reduceLE, Int.reduceLT, Int.reduceNe, Int.reduceMul, Int.reduceAdd, Int.reduceSub, Int.reduceDiv, Int.reduceMod, Int.reduceEq, Int.reduceGE, Int.reduceGT, Int.reduceNeg, Int.reduceBEq, Int.reduceBNe, Nat.reduceEqDiff, hi, hgd, d1]
        refine ⟨by omega, aret [2] rfl ⟨?_, rfl⟩⟩
        simp [resV, Av.get, plainL, all_false_at hil (p := okB) (by simp [okB]; omega)]
      · have d1 : decide ((s[i].toNat : Int) < 32) = false := by simpa using hc1
        by_cases hc2 : ((s[i].toNat : Int) > 126)
        · have d2 : decide ((s[i].toNat : Int) > 126) = true := by simpa using hc2
          simp only [go_sem, Nat.reduceAdd, Nat.reduceMul, Nat.reduceSub, Nat.reduceBEq, Nat.reduceLT, Nat.reduceLeDiff, reduceIte, reduceCtorEq, Int.reduceToNat, Int.reduceLE, Int.reduceLT, Int.reduceNe, Int.reduceMul, Int.reduceAdd, Int.reduceSub, Int.reduceDiv, Int.reduceMod, Int.reduceEq, Int.reduceGE, Int.reduceGT, Int.reduceNeg, Int.reduceBEq, Int.reduceBNe, Nat.reduceEqDiff, hi, hgd, d1, d2]
          refine ⟨by omega, by omega, aret [2] rfl ⟨?_, rfl⟩⟩
          simp [resV, Av.get, plainL, all_false_at hil (p := okB) (by simp [okB]; omega)]
        · have d2 : decide ((s[i].toNat : Int) > 126) = false := by simpa using hc2
          simp only [go_sem, Nat.reduceAdd, Nat.reduceMul, Nat.reduceSub, Nat.reduceBEq, Nat.reduceLT, Nat.reduceLeDiff, reduceIte, reduceCtorEq, Int.reduceToNat, Int.reduceLE, Int.reduceLT, Int.reduceNe, Int.reduceMul, Int.reduceAdd, Int.reduceSub, Int.reduceDiv, Int.reduceMod, Int.reduceEq, Int.reduceGE, Int.reduceGT, Int.reduceNeg, Int.reduceBEq, Int.reduceBNe, Nat.reduceEqDiff, hi, hgd, d1, d2]
          rw [show (i : Int) + 1 = ((i + 1 : Nat) : Int) by omega]
          repeat refine And.intro (by omega) ?_
          refine ainv (hJ (i + 1) ⟨by omega, all_take_succ hil g2 (by simp [okB]; omega)⟩ (by omega)) (Shift.weak ?_)
          simp only [wk, go_sem, Nat.reduceAdd, Nat.reduceMul, Nat.reduceSub, Nat.reduceBEq, Nat.reduceLT, Nat.reduceLeDiff, reduceIte, reduceCtorEq, Int.reduceToNat, Int.reduceLE, Int.reduceLT, Int.reduceNe, Int.reduceMul, Int.reduceAdd, Int.reduceSub, Int.reduceDiv, Int.reduceMod, Int.reduceEq, Int.reduceGE, Int.reduceGT, Int.reduceNeg, Int.reduceBEq, Int.reduceBNe, Nat.reduceEqDiff]
    · simp only [go_sem, Nat.reduceAdd, Nat.reduceMul, Nat.reduceSub, Nat.reduceBEq, Nat.reduceLT, Nat.reduceLeDiff, reduceIte, reduceCtorEq, Int.reduceToNat, Int.reduceLE, Int.reduceLT, Int.reduceNe, Int.reduceMul, Int.reduceAdd, Int.reduceSub, Int.reduceDiv, Int.reduceMod, Int.reduceEq, Int.reduceGE, Int.reduceGT, Int.reduceNeg, Int.reduceBEq, Int.reduceBNe, Nat.reduceEqDiff, hi]
      have hall : s.all okB = true := by rw [← g2, List.take_of_length_le (by omega)]
      refine pcall1 (hasPrefix_pc s [32]) rfl (N := 33) Tryz.ntmps71 rfl (go (N := 33) Tryz.ntmps71 200 ?_)
      cases e1 : Lib.hasPrefix s [32] with
      | true =>
        simp only [go_sem, Nat.reduceAdd, Nat.reduceMul, Nat.reduceSub, Nat.reduceBEq, Nat.reduceLT, Nat.reduceLeDiff, reduceIte, reduceCtorEq, Int.reduceToNat, Int.reduceLE, Int.reduceLT, Int.reduceNe, Int.reduceMul, Int.reduceAdd, Int.reduceSub, Int.reduceDiv, Int.reduceMod, Int.reduceEq, Int.reduceGE, Int.reduceGT, Int.reduceNeg, Int.reduceBEq, Int.reduceBNe, Nat.reduceEqDiff]
        refine aret [2] rfl ⟨?_, rfl⟩
        simp [resV, Av.get, plainL, e1]
      | false =>
        simp only [go_sem, Nat.reduceAdd, Nat.reduceMul, Nat.reduceSub, Nat.reduceBEq, Nat.reduceLT, Nat.reduceLeDiff, reduceIte, reduceCtorEq, Int.reduceToNat, Int.reduceLE, Int.reduceLT, Int.reduceNe, Int.reduceMul, Int.reduceAdd, Int.reduceSub, Int.reduceDiv, Int.reduceMod, Int.reduceEq, Int.reduceGE, Int.reduceGT, Int.reduceNeg, Int.reduceBEq, Int.reduceBNe, Nat.reduceEqDiff]
        refine pcall1 (hasSuffix_pc s [32] (by omega)) rfl (N := 33) Tryz.ntmps71 rfl (go (N := 33) Tryz.ntmps71 200 ?_)
        cases e2 : Lib.hasSuffix s [32] with
        | true =>
          simp only [go_sem, Nat.reduceAdd, Nat.reduceMul, Nat.reduceSub, Nat.reduceBEq, Nat.reduceLT, Nat.reduceLeDiff, reduceIte, reduceCtorEq, Int.reduceToNat, Int.reduceLE, Int.reduceLT, Int.reduceNe, Int.reduceMul, Int.reduceAdd, Int.reduceSub, Int.reduceDiv, Int.reduceMod, Int.reduceEq, Int.reduceGE, Int.reduceGT, Int.reduceNeg, Int.reduceBEq, Int.reduceBNe, Nat.reduceEqDiff]
          refine aret [2] rfl ⟨?_, rfl⟩
          simp [resV, Av.get, plainL, e2]
        | false =>
          simp only [go_sem, Nat.reduceAdd, Nat.reduceMul, Nat.reduceSub, Nat.reduceBEq, Nat.reduceLT, Nat.reduceLeDiff, reduceIte, reduceCtorEq, Int.reduceToNat, Int.reduceLE, Int.reduceLT, Int.reduceNe, Int.reduceMul, Int.reduceAdd, Int.reduceSub, Int.reduceDiv, Int.reduceMod, Int.reduceEq, Int.reduceGE, Int.reduceGT, Int.reduceNeg, Int.reduceBEq, Int.reduceBNe, Nat.reduceEqDiff]
          refine pcallH1 hg (contains_pch hS s [32, 32] (by omega)) rfl (N := 33) Tryz.ntmps71 rfl (go (N := 33) Tryz.ntmps71 200 ?_)
          simp only [go_sem, Nat.reduceAdd, Nat.reduceMul, Nat.reduceSub, Nat.reduceBEq, Nat.reduceLT, Nat.reduceLeDiff, reduceIte, reduceCtorEq, Int.reduceToNat, Int.reduceLE, Int.reduceLT, Int.reduceNe, Int.reduceMul, Int.reduceAdd, Int.reduceSub, Int.reduceDiv, Int.reduceMod, Int.reduceEq, Int.reduceGE, Int.reduceGT, Int.reduceNeg, Int.reduceBEq, Int.reduceBNe, Nat.reduceEqDiff]
          refine aret [2] rfl ⟨?_, rfl⟩
          simp [resV, Av.get, plainL, e1, e2, hall]

/-- one byte of a proper string -/
def okP (o : List UInt8) (c : UInt8) : Bool := capI c.toNat || (digI c.toNat || (((c.toNat : Int) == 32) || !(decide (Lib.indexByte o c < 0))))
def properL (s : List UInt8) (most : Int) (o : List UInt8) : Bool :=
  !(decide ((s.length : Int) < 1)) && (!(decide ((s.length : Int) > most)) && (capI (s.getD 0 0).toNat && (plainL s && s.all (okP o))))

theorem proper_pch {S : Std} (hS : LibOk S) (s : List UInt8) (most : Int) (o : List UInt8) (hs : s.length < 1000000) : PcH Tryz.prog S 73 [.str s, .int .i64 most, .str o] (· = .bool (properL s most o)) := by
  refine pch_intro (cth_intro Tryz.func73 rfl Tryz.ntmps73 hB73 (by simp) fun h ρ w hg => go (N := 60) Tryz.ntmps73 300 ?_)
  by_cases h1 : (s.length : Int) < 1
  · have d1 : decide ((s.length : Int) < 1) = true := by simpa using h1
    simp only [go_sem, Nat.reduceAdd, Nat.reduceMul, Nat.reduceSub, Nat.reduceBEq, Nat.reduceLT, Nat.reduceLeDiff, reduceIte, reduceCtorEq, Int.reduceToNat, Int.reduceLE, Int.reduceLT, Int.reduceNe, Int.reduceMul, Int.reduceAdd, Int.reduceSub, Int.reduceDiv, Int.reduceMod, Int.reduceEq, Int.reduceGE, Int.reduceGT, Int.reduceNeg, Int.reduceBEq, Int.reduceBNe, Nat.reduceEqDiff, d1]
    exact aret [6] rfl ⟨by simp [resV, Av.get, properL, h1], rfl⟩
  have d1 : decide ((s.length : Int) < 1) = false := by simpa using h1
  by_cases h2 : (s.length : Int) > most
  · have d2 : decide ((s.length : Int) > most) = true := by simpa using h2
    simp only [go_sem, Nat.reduceAdd, Nat.reduceMul, Nat.reduceSub, Nat.reduceBEq, Nat.reduceLT, Nat.reduceLeDiff, reduceIte, reduceCtorEq, Int.reduceToNat, Int.reduceLE, Int.reduceLT, Int.reduceNe, Int.reduceMul, Int.reduceAdd, Int.reduceSub, Int.reduceDiv, Int.reduceMod, Int.reduceEq, Int.reduceGE, Int.reduceGT, Int.reduceNeg, Int.reduceBEq, Int.reduceBNe, Nat.reduceEqDiff, d1, d2]
    exact aret [6] rfl ⟨by simp [resV, Av.get, properL, h2], rfl⟩
  have d2 : decide ((s.length : Int) > most) = false := by simpa using h2
  simp only [go_sem, Nat.reduceAdd, Nat.reduceMul, Nat.reduceSub, Nat.reduceBEq, Nat.reduceLT, Nat.reduceLeDiff, reduceIte, reduceCtorEq, Int.reduceToNat, Int.reduceLE, Int.reduceLT, Int.reduceNe, Int.reduceMul, Int.reduceAdd, Int.reduceSub, Int.reduceDiv, Int.reduceMod, Int.reduceEq, Int.reduceGE, Int.reduceGT, Int.reduceNeg, Int.reduceBEq, Int.reduceBNe, Nat.reduceEqDiff, d1, d2]
  have hpos : 0 < s.length := by omega
  refine ⟨by omega, ?_⟩
  refine pcall1 (isCapital_pc _) rfl (N := 60) Tryz.ntmps73 rfl (go (N := 60) Tryz.ntmps73 300 ?_)
  cases e1 : capI (s.getD 0 0).toNat with
  | false =>
    simp only [go_sem, Nat.reduceAdd, Nat.reduceMul, Nat.reduceSub, Nat.reduceBEq, Nat.reduceLT, Nat.reduceLeDiff, reduceIte, reduceCtorEq, Int.reduceToNat, Int.reduceLE, Int.reduceLT, Int.reduceNe, Int.reduceMul, Int.reduceAdd, Int.reduceSub, Int.reduceDiv, Int.reduceMod, Int.reduceEq, Int.reduceGE, Int.reduceGT, Int.reduceNeg, Int.reduceBEq, Int.reduceBNe, Nat.reduceEqDiff]
    exact aret [6] rfl ⟨by simp only [resV, Av.get, properL, e1]; simp, rfl⟩
  | true =>
  simp only [go_sem, Nat.reduceAdd, Nat.reduceMul, Nat.reduceSub, Nat.reduceBEq, Nat.reduceLT, Nat.reduceLeDiff, reduceIte, reduceCtorEq, Int.reduceToNat, Int.reduceLE, Int.reduceLT, Int.reduceNe, Int.reduceMul, Int.reduceAdd, Int.reduceSub, Int.reduceDiv, Int.reduceMod, Int.reduceEq, Int.reduceGE, Int.reduceGT, Int.reduceNeg, Int.reduceBEq, Int.reduceBNe, Nat.reduceEqDiff]
  refine pcallH1 hg (plain_pch hS s hs) rfl (N := 60) Tryz.ntmps73 rfl (go (N := 60) Tryz.ntmps73 300 ?_)
  cases e2 : plainL s with
  | false =>
    simp only [go_sem, Nat.reduceAdd, Nat.reduceMul, Nat.reduceSub, Nat.reduceBEq, Nat.reduceLT, Nat.reduceLeDiff, reduceIte, reduceCtorEq, Int.reduceToNat, Int.reduceLE, Int.reduceLT, Int.reduceNe, Int.reduceMul, Int.reduceAdd, Int.reduceSub, Int.reduceDiv, Int.reduceMod, Int.reduceEq, Int.reduceGE, Int.reduceGT, Int.reduceNeg, Int.reduceBEq, Int.reduceBNe, Nat.reduceEqDiff]
    exact aret [6] rfl ⟨by simp only [resV, Av.get, properL, e2]; simp, rfl⟩
  | true =>
  simp only [go_sem, Nat.reduceAdd, Nat.reduceMul, Nat.reduceSub, Nat.reduceBEq, Nat.reduceLT, Nat.reduceLeDiff, reduceIte, reduceCtorEq, Int.reduceToNat, Int.reduceLE, Int.reduceLT, Int.reduceNe, Int.reduceMul, Int.reduceAdd, Int.reduceSub, Int.reduceDiv, Int.reduceMod, Int.reduceEq, Int.reduceGE, Int.reduceGT, Int.reduceNeg, Int.reduceBEq, Int.reduceBNe, Nat.reduceEqDiff]
  have hval : properL s most o = s.all (okP o) := by simp only [properL, d1, d2, e1, e2]; simp
  rw [hval]
  refine aloop (ι := Nat) (fun i => s.length - i) (fun i => [(30, .int .i64 i), (29, .int .i64 s.length), (0, .str s), (2, .str o)]) (fun _ => []) (fun i => i ≤ s.length ∧ (s.take i).all (okP o) = true) 0 ⟨by omega, by simp⟩ ?_ ?_
  · refine Shift.weak ?_
    simp only [wk, go_sem, Nat.reduceAdd, Nat.reduceMul, Nat.reduceSub, Nat.reduceBEq, Nat.reduceLT, Nat.reduceLeDiff, reduceIte, reduceCtorEq, Int.reduceToNat, Int.reduceLE, Int.reduceLT, Int.reduceNe, Int.reduceMul, Int.reduceAdd, Int.reduceSub, Int.reduceDiv, Int.reduceMod, Int.reduceEq, Int.reduceGE, Int.reduceGT, Int.reduceNeg, Int.reduceBEq, Int.reduceBNe, Nat.reduceEqDiff]
  · rintro i ⟨g1, g2⟩ J hJ
    refine go (N := 60) Tryz.ntmps73 300 ?_
    by_cases hi : (i : Int) < s.length
    · have hil : i < s.length := by omega
      have hgd : s.getD i 0 = s[i] := by simp [List.getD, hil]
      simp only [go_sem, Nat.reduceAdd, Nat.reduceMul, Nat.reduceSub, Nat.reduceBEq, Nat.reduceLT, Nat.reduceLeDiff, reduceIte, reduceCtorEq, Int.reduceToNat, Int.reduceLE, Int.reduceLT, Int.reduceNe, Int.reduceMul, Int.reduceAdd, Int.reduceSub, Int.reduceDiv, Int.reduceMod, Int.reduceEq, Int.reduceGE, Int.reduceGT, Int.reduceNeg, Int.reduceBEq, Int.reduceBNe, Nat.reduceEqDiff, hi, hgd]
      refine ⟨by omega, ?_⟩
      refine pcall1 (isCapital_pc _) rfl (N := 60) Tryz.ntmps73 rfl (go (N := 60) Tryz.ntmps73 300 ?_)
      cases c1 : capI (s[i].toNat : Int) with
      | true =>
        simp only [go_sem, Nat.reduceAdd, Nat.reduceMul, Nat.reduceSub, Nat.reduceBEq, Nat.reduceLT, Nat.reduceLeDiff, reduceIte, reduceCtorEq, Int.reduceToNat, Int.reduceLE, Int.reduceLT, Int.reduceNe, Int.reduceMul, Int.reduceAdd, Int.reduceSub, Int.reduceDiv, Int.reduceMod, Int.reduceEq, Int.reduceGE, Int.reduceGT, Int.reduceNeg, Int.reduceBEq, Int.reduceBNe, Nat.reduceEqDiff]
        rw [show (i : Int) + 1 = ((i + 1 : Nat) : Int) by omega]
        repeat refine And.intro (by omega) ?_
        refine ainv (hJ (i + 1) ⟨by omega, all_take_succ hil g2 (by simp only [okP, c1]; rfl)⟩ (by omega)) (Shift.weak ?_)
        simp only [wk, go_sem, Nat.reduceAdd, Nat.reduceMul, Nat.reduceSub, Nat.reduceBEq, Nat.reduceLT, Nat.reduceLeDiff, reduceIte, reduceCtorEq, Int.reduceToNat, Int.reduceLE, Int.reduceLT, Int.reduceNe, Int.reduceMul, Int.reduceAdd, Int.reduceSub, Int.reduceDiv, Int.reduceMod, Int.reduceEq, Int.reduceGE, Int.reduceGT, Int.reduceNeg, Int.reduceBEq, Int.reduceBNe, Nat.reduceEqDiff]
      | false =>
        simp only [go_sem, Nat.reduceAdd, Nat.reduceMul, Nat.reduceSub, Nat.reduceBEq, Nat.reduceLT, Nat.reduceLeDiff, reduceIte, reduceCtorEq, Int.reduceToNat, Int.reduceLE, Int.reduceLT, Int.reduceNe, Int.reduceMul, Int.reduceAdd, Int.reduceSub, Int.reduceDiv, Int.reduceMod, Int.reduceEq, Int.reduceGE, Int.reduceGT, Int.reduceNeg, Int.reduceBEq, Int.reduceBNe, Nat.reduceEqDiff, hi, hgd]
        refine ⟨by omega, ?_⟩
        refine pcall1 (isDigit_pc _) rfl (N := 60) Tryz.ntmps73 rfl (go (N := 60) Tryz.ntmps73 300 ?_)
        cases c2 : digI (s[i].toNat : Int) with
        | true =>
          simp only [go_sem, Nat.reduceAdd, Nat.reduceMul, Nat.reduceSub, Nat.reduceBEq, Nat.reduceLT, Nat.reduceLeDiff, reduceIte, reduceCtorEq, Int.reduceToNat, Int.reduceLE, Int.reduceLT, Int.reduceNe, Int.reduceMul, Int.reduceAdd, Int.reduceSub, Int.reduceDiv, Int.reduceMod, Int.reduceEq, Int.reduceGE, Int.reduceGT, Int.reduceNeg, Int.reduceBEq, Int.reduceBNe, Nat.reduceEqDiff]
          rw [show (i : Int) + 1 = ((i + 1 : Nat) : Int) by omega]
          repeat refine And.intro (by omega) ?_
          refine ainv (hJ (i + 1) ⟨by omega, all_take_succ hil g2 (by simp only [okP, c1, c2]; rfl)⟩ (by omega)) (Shift.weak ?_)
          simp only [wk, go_sem, Nat.reduceAdd, Nat.reduceMul, Nat.reduceSub, Nat.reduceBEq, Nat.reduceLT, Nat.reduceLeDiff, reduceIte, reduceCtorEq, Int.reduceToNat, Int.reduceLE, Int.reduceLT, Int.reduceNe, Int.reduceMul, Int.reduceAdd, Int.reduceSub, Int.reduceDiv, Int.reduceMod, Int.reduceEq, Int.reduceGE, Int.reduceGT, Int.reduceNeg, Int.reduceBEq, Int.reduceBNe, Nat.reduceEqDiff]
        | false =>
          cases c3 : ((s[i].toNat : Int) == 32) with
          | true =>
            have c3' : ((s[i].toNat : Int) != 32) = false := by simpa using c3
            simp only [go_sem, Nat.reduceAdd, Nat.reduceMul, Nat.reduceSub, Nat.reduceBEq, Nat.reduceLT, Nat.reduceLeDiff, reduceIte, reduceCtorEq, Int.reduceToNat, Int.reduceLE, Int.reduceLT, Int.reduceNe, Int.reduceMul, Int.reduceAdd, Int.reduceSub, Int.reduceDiv, Int.reduceMod, Int.reduceEq, Int.reduceGE, Int.reduceGT, Int.reduceNeg, Int.reduceBEq, Int.reduceBNe, Nat.reduceEqDiff, hi, hgd, c3']
            rw [show (i : Int) + 1 = ((i + 1 : Nat) : Int) by omega]
            repeat refine And.intro (by omega) ?_
            refine ainv (hJ (i + 1) ⟨by omega, all_take_succ hil g2 (by simp only [okP, c1, c2, c3]; rfl)⟩ (by omega)) (Shift.weak ?_)
            simp only [wk, go_sem, Nat.reduceAdd, Nat.reduceMul, Nat.reduceSub, Nat.reduceBEq, Nat.reduceLT, Nat.reduceLeDiff, reduceIte, reduceCtorEq, Int.reduceToNat, Int.reduceLE, Int.reduceLT, Int.reduceNe, Int.reduceMul, Int.reduceAdd, Int.reduceSub, Int.reduceDiv, Int.reduceMod, Int.reduceEq, Int.reduceGE, Int.reduceGT, Int.reduceNeg, Int.reduceBEq, Int.reduceBNe, Nat.reduceEqDiff]
          | false =>
            have c3' : ((s[i].toNat : Int) != 32) = true := by simpa using c3
            simp only [go_sem, Nat.reduceAdd, Nat.reduceMul, Nat.reduceSub, Nat.reduceBEq, Nat.reduceLT, Nat.reduceLeDiff, reduceIte, reduceCtorEq, Int.reduceToNat, Int.reduceLE, Int.reduceLT, Int.reduceNe, Int.reduceMul, Int.reduceAdd, Int.reduceSub, Int.reduceDiv, Int.reduceMod, Int.reduceEq, Int.reduceGE, Int.reduceGT, Int.reduceNeg, Int.reduceBEq, Int.reduceBNe, Nat.reduceEqDiff, hi, hgd, c3']
            refine ⟨by omega, by omega, ?_⟩
            refine pcall1 (indexByte_pc o (s[i].toNat : Int)) rfl (N := 60) Tryz.ntmps73 rfl (go (N := 60) Tryz.ntmps73 300 ?_)
            have hb : ((s[i].toNat : Int)).toNat.toUInt8 = s[i] := by simp
            rw [hb]
            cases c4 : decide (Lib.indexByte o s[i] < 0) with
            | false =>
              simp only [go_sem, Nat.reduceAdd, Nat.reduceMul, Nat.reduceSub, Nat.reduceBEq, Nat.reduceLT, Nat.reduceLeDiff, reduceIte, reduceCtorEq, Int.reduceToNat, Int.reduceLE, Int.reduceLT, Int.reduceNe, Int.reduceMul, Int.reduceAdd, Int.reduceSub, Int.reduceDiv, Int.reduceMod, Int.reduceEq, Int.reduceGE, Int.reduceGT, Int.reduceNeg, Int.reduceBEq, Int.reduceBNe, Nat.reduceEqDiff, c4]
              rw [show (i : Int) + 1 = ((i + 1 : Nat) : Int) by omega]
              repeat refine And.intro (by omega) ?_
              refine ainv (hJ (i + 1) ⟨by omega, all_take_succ hil g2 (by simp only [okP, c1, c2, c3, c4]; rfl)⟩ (by omega)) (Shift.weak ?_)
              simp only [wk, go_sem, Nat.reduceAdd, Nat.reduceMul, Nat.reduceSub, Nat.reduceBEq, Nat.reduceLT, Nat.reduceLeDiff, reduceIte, reduceCtorEq, Int.reduceToNat, Int.reduceLE, Int.reduceLT, Int.reduceNe, Int.reduceMul, Int.reduceAdd, Int.reduceSub, Int.reduceDiv, Int.reduceMod, Int.reduceEq, Int.reduceGE, Int.reduceGT, Int.reduceNeg, Int.reduceBEq, Int.reduceBNe, Nat.reduceEqDiff]
            | true =>
              simp only [go_sem, Nat.reduceAdd, Nat.reduceMul, Nat.reduceSub, Nat.reduceBEq, Nat.reduceLT, Nat.reduceLeDiff, reduceIte, reduceCtorEq, Int.reduceToNat, Int.reduceLE, Int.reduceLT, Int.reduceNe, Int.reduceMul, Int.reduceAdd, Int.reduceSub, Int.reduceDiv, Int.reduceMod, Int.reduceEq, Int.reduceGE, Int.reduceGT, Int.reduceNeg, Int.reduceBEq, Int.reduceBNe, Nat.reduceEqDiff, c4]
              refine aret [6] rfl ⟨?_, rfl⟩
              simp [resV, Av.get, all_false_at hil (p := okP o) (by simp only [okP, c1, c2, c3, c4]; rfl)]
    · simp only [go_sem, Nat.reduceAdd, Nat.reduceMul, Nat.reduceSub, Nat.reduceBEq, Nat.reduceLT, Nat.reduceLeDiff, reduceIte, reduceCtorEq, Int.reduceToNat, Int.reduceLE, Int.reduceLT, Int.reduceNe, Int.reduceMul, Int.reduceAdd, Int.reduceSub, Int.reduceDiv, Int.reduceMod, Int.reduceEq, Int.reduceGE, Int.reduceGT, Int.reduceNeg, Int.reduceBEq, Int.reduceBNe, Nat.reduceEqDiff, hi]
      have hall : s.all (okP o) = true := by rw [← g2, List.take_of_length_le (by omega)]
      exact aret [6] rfl ⟨by simp [resV, Av.get, hall], rfl⟩

def isSetL (s : List UInt8) : Bool := properL s 60 [39, 46, 45, 47] && (!Lib.contains s [32, 45, 32] && !Lib.hasSuffix s [32, 45])

theorem isSet_pch {S : Std} (hS : LibOk S) (s : List UInt8) (hs : s.length < 1000000) : PcH Tryz.prog S 116 [.str s] (· = .bool (isSetL s)) := by
  refine pch_intro (cth_intro Tryz.func116 rfl Tryz.ntmps116 hB116 (by simp) fun h ρ w hg => go (N := 15) Tryz.ntmps116 300 ?_)
  simp only [go_sem, Nat.reduceAdd, Nat.reduceMul, Nat.reduceSub, Nat.reduceBEq, Nat.reduceLT, Nat.reduceLeDiff, reduceIte, reduceCtorEq, Int.reduceToNat, Int.reduceLE, Int.reduceLT, Int.reduceNe, Int.reduceMul, Int.reduceAdd, Int.reduceSub, Int.reduceDiv, Int.reduceMod, Int.reduceEq, Int.reduceGE, Int.reduceGT, Int.reduceNeg, Int.reduceBEq, Int.reduceBNe, Nat.reduceEqDiff]
  refine pcallH1 hg (proper_pch hS s 60 [39, 46, 45, 47] hs) rfl (N := 15) Tryz.ntmps116 rfl (go (N := 15) Tryz.ntmps116 300 ?_)
  cases e1 : properL s 60 [39, 46, 45, 47] with
  | false =>
    simp only [go_sem, Nat.reduceAdd, Nat.reduceMul, Nat.reduceSub, Nat.reduceBEq, Nat.reduceLT, Nat.reduceLeDiff, reduceIte, reduceCtorEq, Int.reduceToNat, Int.reduceLE, Int.reduceLT, Int.reduceNe, Int.reduceMul, Int.reduceAdd, Int.reduceSub, Int.reduceDiv, Int.reduceMod, Int.reduceEq, Int.reduceGE, Int.reduceGT, Int.reduceNeg, Int.reduceBEq, Int.reduceBNe, Nat.reduceEqDiff]
    exact aret [2] rfl ⟨by simp [resV, Av.get, isSetL, e1], rfl⟩
  | true =>
    simp only [go_sem, Nat.reduceAdd, Nat.reduceMul, Nat.reduceSub, Nat.reduceBEq, Nat.reduceLT, Nat.reduceLeDiff, reduceIte, reduceCtorEq, Int.reduceToNat, Int.reduceLE, Int.reduceLT, Int.reduceNe, Int.reduceMul, Int.reduceAdd, Int.reduceSub, Int.reduceDiv, Int.reduceMod, Int.reduceEq, Int.reduceGE, Int.reduceGT, Int.reduceNeg, Int.reduceBEq, Int.reduceBNe, Nat.reduceEqDiff]
    refine pcallH1 hg (contains_pch hS s [32, 45, 32] (by omega)) rfl (N := 15) Tryz.ntmps116 rfl (go (N := 15) Tryz.ntmps116 300 ?_)
    cases e2 : Lib.contains s [32, 45, 32] with
    | true =>
      simp only [go_sem, Nat.reduceAdd, Nat.reduceMul, Nat.reduceSub, Nat.reduceBEq, Nat.reduceLT, Nat.reduceLeDiff, reduceIte, reduceCtorEq, Int.reduceToNat, Int.reduceLE, Int.reduceLT, Int.reduceNe, Int.reduceMul, Int.reduceAdd, Int.reduceSub, Int.reduceDiv, Int.reduceMod, Int.reduceEq, Int.reduceGE, Int.reduceGT, Int.reduceNeg, Int.reduceBEq, Int.reduceBNe, Nat.reduceEqDiff]
      exact aret [2] rfl ⟨by simp [resV, Av.get, isSetL, e2], rfl⟩
    | false =>
      simp only [go_sem, Nat.reduceAdd, Nat.reduceMul, Nat.reduceSub, Nat.reduceBEq, Nat.reduceLT, Nat.reduceLeDiff, reduceIte, reduceCtorEq, Int.reduceToNat, Int.reduceLE, Int.reduceLT, Int.reduceNe, Int.reduceMul, Int.reduceAdd, Int.reduceSub, Int.reduceDiv, Int.reduceMod, Int.reduceEq, Int.reduceGE, Int.reduceGT, Int.reduceNeg, Int.reduceBEq, Int.reduceBNe, Nat.reduceEqDiff]
      refine pcall1 (hasSuffix_pc s [32, 45] (by omega)) rfl (N := 15) Tryz.ntmps116 rfl (go (N := 15) Tryz.ntmps116 300 ?_)
      simp only [go_sem, Nat.reduceAdd, Nat.reduceMul, Nat.reduceSub, Nat.reduceBEq, Nat.reduceLT, Nat.reduceLeDiff, reduceIte, reduceCtorEq, Int.reduceToNat, Int.reduceLE, Int.reduceLT, Int.reduceNe, Int.reduceMul, Int.reduceAdd, Int.reduceSub, Int.reduceDiv, Int.reduceMod, Int.reduceEq, Int.reduceGE, Int.reduceGT, Int.reduceNeg, Int.reduceBEq, Int.reduceBNe, Nat.reduceEqDiff]
      exact aret [2] rfl ⟨by simp [resV, Av.get, isSetL, e1, e2], rfl⟩
end Go.Proofs.YtpjbbpilgfihbaaGreatDoor
/- Numbers of scenes: what they are, divided, compared. Own work of this seat. -/
set_option maxRecDepth 100000
set_option linter.unusedSimpArgs false
set_option linter.unusedVariables false
namespace Go.Proofs.YtpjbbpilgfihbaaGreatDoor
open Go Go.Av Go.RowKit
attribute [local go_sem ↓] br_true br_false dbr_true dbr_false dbri_true dbri_false dbrg_true dbrg_false
attribute [local go_sem] run cont br dbr dx dxc dgrd dyld dres dcall calm fieldPlace? allHas step1 opN grdN resN condN exitN stopN exitIt dOk xop xbin xint xarith xstr xbool xpick xnot xneg xextract xpart xpartOk xindex xfieldF fieldD xnew xbox xalloc xfieldAddr xptrAddIf xindexAddr xloadC xload putCells reElem xstoreB xstore xconv xtext xlen xlen2 xcall xfill xbuild cut rep xbuildSlice xbuildSliceD isRow elemD isU8 ev evs evp Go.Av.put Go.Av.get ofConst yldD yldV notBool_undef args0 cellsOf cond_true cond_false decide_true decide_false decide_eq_true_eq decide_eq_false_iff_not List.getElem?_cons_zero List.getElem?_cons_succ List.getElem?_nil List.getD_cons_zero List.getD_cons_succ List.getD_nil List.set_cons_zero List.set_cons_succ List.length_cons List.length_nil List.cons_append List.nil_append List.append_nil List.all_cons List.all_nil List.map_cons List.map_nil List.take_succ_cons List.take_zero List.drop_succ_cons List.drop_zero Bool.and_true Bool.true_and Bool.and_self Bool.and_false Bool.false_and one Go.Av.frozen beq_self_eq_true true_and and_true forall_const false_implies implies_true and_self Option.map_some Option.map_none Nat.zero_add Nat.add_zero Nat.zero_mul Nat.mul_one Nat.one_mul Int.toNat_zero ne_eq not_false_eq_true not_true_eq_false Bool.true_eq_false Bool.false_eq_true List.toList_toArray inr Go.Av.byteOf isByte decide_eq_decide Bool.not_true Bool.not_false Bool.not_eq_true' Bool.or_true Bool.true_or Bool.or_false Bool.false_or ge_iff_le gt_iff_lt and_assoc Bool.decide_eq_true beq_iff_eq beq_eq_false_iff_ne bne_iff_ne bne_self_eq_false if_true if_false Bool.and_eq_true Bool.or_eq_true Bool.and_eq_false_imp Bool.or_eq_false_iff Bool.not_eq_false' has Option.isSome_some Option.isSome_none Int.toNat_natCast Int.cast_ofNat_Int List.length_append xapp2 xapp xappS xappD xappB notInt srcOf srcB byteAV splice' xcut xcutS xcutF xcutB xcutN xcut0 cutL loOf hiOf evo xmake zelem xmax xcopy2 xcopyS xcopyB xnil xcut3 ixOf xclear2 xclearB List.getElem?_toArray xbin2 xnileq xempty xmkmap xmput xmputB xmputF isKey keyEq mfind xbin3 xeqs xeqop eqFs bothB leafEq xlook xlookB xlookF xbytes beq_c_n beq_n_c bne_c_n bne_n_c one_nil dxi dxic dbri rix dck reader blind opOk refOk Go.Op.operands Go.Call.operands List.contains_cons List.contains_nil dxg dxgc dbrg pck putD List.lookup_cons List.lookup_nil ts2 tb2 zl2 za2 Tryz.underlying2 ts3 tb3 zl3 za3 Tryz.underlying3 ts4 tb4 zl4 za4 Tryz.underlying4 ts5 tb5 zl5 za5 Tryz.underlying5 ts6 tb6 zl6 za6 Tryz.underlying6 ts7 tb7 za7 Tryz.underlying7 ts8 tb8 za8 Tryz.underlying8 ts9 tb9 zl9 za9 Tryz.underlying9 ts10 tb10 zl10 za10 Tryz.underlying10 ts11 tb11 zl11 za11 Tryz.underlying11 ts12 tb12 zl12 za12 Tryz.underlying12 ts13 tb13 za13 Tryz.underlying13 ts14 tb14 za14 Tryz.underlying14 ts18 tb18 za18 Tryz.underlying18 ts19 tb19 za19 Tryz.underlying19 ts21 tb21 zl21 za21 Tryz.underlying21 ts22 tb22 zl22 za22 Tryz.underlying22 ts24 tb24 za24 Tryz.underlying24 ts25 tb25 za25 Tryz.underlying25 ts27 tb27 zl27 za27 Tryz.underlying27 ts35 tb35 zl35 za35 Tryz.underlying35 ts36 tb36 za36 Tryz.underlying36 ts37 tb37 za37 Tryz.underlying37 ts39 tb39 zl39 za39 Tryz.underlying39 ts41 tb41 za41 Tryz.underlying41 ts42 tb42 za42 Tryz.underlying42 ts63 tb63 zl63 za63 Tryz.underlying63 ts64 tb64 zl64 za64 Tryz.underlying64 ts65 tb65 za65 Tryz.underlying65 ts66 tb66 za66 Tryz.underlying66 ts67 tb67 zl67 za67 Tryz.underlying67 ts69 tb69 za69 Tryz.underlying69 ts70 tb70 za70 Tryz.underlying70 ts73 tb73 za73 Tryz.underlying73 ts74 tb74 za74 Tryz.underlying74 ts75 tb75 zl75 za75 Tryz.underlying75 ts82 tb82 zl82 za82 Tryz.underlying82 ts96 tb96 za96 Tryz.underlying96 ts97 tb97 za97 Tryz.underlying97 ts103 tb103 za103 Tryz.underlying103 ts104 tb104 za104 Tryz.underlying104 ts109 tb109 zl109 za109 Tryz.underlying109 ts116 tb116 zl116 za116 Tryz.underlying116 ts117 tb117 za117 Tryz.underlying117 ts118 tb118 za118 Tryz.underlying118 ts120 tb120 zl120 za120 Tryz.underlying120 ts124 tb124 zl124 za124 Tryz.underlying124 ts126 tb126 za126 Tryz.underlying126 ts128 tb128 zl128 za128 Tryz.underlying128 ts130 tb130 za130 Tryz.underlying130 ts131 tb131 za131 Tryz.underlying131 ts153 tb153 zl153 za153 Tryz.underlying153 ts167 tb167 zl167 za167 Tryz.underlying167 ts171 tb171 zl171 za171 Tryz.underlying171 ts177 tb177 zl177 za177 Tryz.underlying177 ts183 tb183 zl183 za183 Tryz.underlying183 ts189 tb189 zl189 za189 Tryz.underlying189 ts191 tb191 zl191 za191 Tryz.underlying191 ts195 tb195 za195 Tryz.underlying195 ts196 tb196 za196 Tryz.underlying196 ts198 tb198 zl198 za198 Tryz.underlying198 ts203 tb203 Tryz.underlying203 ts209 tb209 za209 Tryz.underlying209 ts210 tb210 za210 Tryz.underlying210 ts211 tb211 Tryz.underlying211 ts216 tb216 za216 Tryz.underlying216 ts217 tb217 za217 Tryz.underlying217 ts220 tb220 Tryz.underlying220 ts225 tb225 Tryz.underlying225 ts226 tb226 Tryz.underlying226 ts227 tb227 za227 Tryz.underlying227 ts228 tb228 za228 Tryz.underlying228 ts232 tb232 zl232 za232 Tryz.underlying232 ts233 tb233 zl233 za233 Tryz.underlying233 ts235 tb235 zl235 za235 Tryz.underlying235 ts236 tb236 zl236 za236 Tryz.underlying236 ts237 tb237 za237 Tryz.underlying237 ts238 tb238 za238 Tryz.underlying238

def digB (c : UInt8) : Bool := digI c.toNat
def capB (c : UInt8) : Bool := capI c.toNat
def digs (s : List UInt8) : List UInt8 := s.takeWhile digB
def caps (s : List UInt8) : List UInt8 := s.dropWhile digB

theorem takeWhile_at {p : UInt8 → Bool} : ∀ {s : List UInt8} {k : Nat}, k ≤ s.length → (s.take k).all p = true → (k = s.length ∨ p (s.getD k 0) = false) → s.takeWhile p = s.take k ∧ s.dropWhile p = s.drop k
  | [], k, hk, _, _ => by simp
  | c :: s, 0, _, _, e => by
    rcases e with e | e
    · simp at e
    · simp at e; simp [e]
  | c :: s, k + 1, hk, h, e => by
    simp only [List.take_succ_cons, List.all_cons, Bool.and_eq_true] at h
    have ih := takeWhile_at (s := s) (k := k) (by simpa using hk) h.2 (by simpa using e)
    simp [h.1, ih.1, ih.2]

def numberL (s : List UInt8) : Bool :=
  (caps s).all capB && (!(decide (((caps s).length : Int) > 5) || Lib.hasSuffix (caps s) [65]) &&
    (if digs s = [48] then caps s != [] else decide (1 ≤ (digs s).length) && (decide ((digs s).length ≤ 3) && ((s.getD 0 0).toNat : Int) != 48)))

set_option maxHeartbeats 1000000 in
theorem isNumber_pc' (s : List UInt8) (hs : s.length < 1000000) : Pc Tryz.prog 24 [.str s] (· = .bool (numberL s)) := by
  refine pc_intro (ct_intro Tryz.func24 rfl Tryz.ntmps24 hB24 (by simp) fun h ρ w => go (N := 56) Tryz.ntmps24 300 ?_)
  simp only [go_sem, Nat.reduceAdd, Nat.reduceMul, Nat.reduceSub, Nat.reduceBEq, Nat.reduceLT, Nat.reduceLeDiff, reduceIte, reduceCtorEq, Int.reduceToNat, Int.reduceLE, Int.reduceLT, Int.reduceNe, Int.reduceMul, Int.reduceAdd, Int.reduceSub, Int.reduceDiv, Int.reduceMod, Int.reduceEq, Int.reduceGE, Int.reduceGT, Int.reduceNeg, Int.reduceBEq, Int.reduceBNe, Nat.reduceEqDiff]
  refine aloopX (ι := Nat) (κ := Unit) (fun i => s.length - i) (fun i => [(3, .int .i64 i), (0, .str s)]) (fun _ => []) (fun i => i ≤ s.length ∧ (s.take i).all digB = true)
    (fun _ => [(3, .int .i64 (digs s).length), (0, .str s)]) (fun _ => []) (fun _ => s = digs s ++ caps s) 0 ⟨by omega, by simp⟩ ?_ ?_ ?_
  · refine Shift.weak ?_
    simp only [wk, go_sem, Nat.reduceAdd, Nat.reduceMul, Nat.reduceSub, Nat.reduceBEq, Nat.reduceLT, Nat.reduceLeDiff, reduceIte, reduceCtorEq, Int.reduceToNat, Int.reduceLE, Int.reduceLT, Int.reduceNe, Int.reduceMul, Int.reduceAdd, Int.reduceSub, Int.reduceDiv, Int.reduceMod, Int.reduceEq, Int.reduceGE, Int.reduceGT, Int.reduceNeg, Int.reduceBEq, Int.reduceBNe, Nat.reduceEqDiff]
  · rintro - hd
    have hdl : (digs s).length ≤ s.length := (congrArg List.length hd).symm ▸ by simp
    have edr : List.drop (digs s).length s = caps s := (congrArg (List.drop (digs s).length) hd).trans (by simp)
    have etk : List.take (digs s).length s = digs s := (congrArg (List.take (digs s).length) hd).trans (by simp)
    have hcl : (caps s).length ≤ s.length := (congrArg List.length hd).symm ▸ by simp
    refine go (N := 56) Tryz.ntmps24 300 ?_
    simp only [go_sem, Nat.reduceAdd, Nat.reduceMul, Nat.reduceSub, Nat.reduceBEq, Nat.reduceLT, Nat.reduceLeDiff, reduceIte, reduceCtorEq, Int.reduceToNat, Int.reduceLE, Int.reduceLT, Int.reduceNe, Int.reduceMul, Int.reduceAdd, Int.reduceSub, Int.reduceDiv, Int.reduceMod, Int.reduceEq, Int.reduceGE, Int.reduceGT, Int.reduceNeg, Int.reduceBEq, Int.reduceBNe, Nat.reduceEqDiff, edr]
    refine ⟨by omega, by omega, by omega, ?_⟩
    refine aloopX (ι := Nat) (κ := Unit) (fun i => (caps s).length - i) (fun i => [(23, .int .i64 i), (22, .int .i64 (caps s).length), (4, .str (caps s)), (3, .int .i64 (digs s).length), (0, .str s)]) (fun _ => []) (fun i => i ≤ (caps s).length ∧ ((caps s).take i).all capB = true)
      (fun _ => [(4, .str (caps s)), (3, .int .i64 (digs s).length), (0, .str s)]) (fun _ => []) (fun _ => (caps s).all capB = true) 0 ⟨by omega, by simp⟩ ?_ ?_ ?_
    · refine Shift.weak ?_
      simp only [wk, go_sem, Nat.reduceAdd, Nat.reduceMul, Nat.reduceSub, Nat.reduceBEq, Nat.reduceLT, Nat.reduceLeDiff, reduceIte, reduceCtorEq, Int.reduceToNat, Int.reduceLE, Int.reduceLT, Int.reduceNe, Int.reduceMul, Int.reduceAdd, Int.reduceSub, Int.reduceDiv, Int.reduceMod, Int.reduceEq, Int.reduceGE, Int.reduceGT, Int.reduceNeg, Int.reduceBEq, Int.reduceBNe, Nat.reduceEqDiff]
    · rintro - hc
      by_cases h5 : ((caps s).length : Int) > 5
      · have d5 : decide (((caps s).length : Int) > 5) = true := by simpa using h5
        refine go (N := 56) Tryz.ntmps24 300 ?_
        simp only [go_sem, Nat.reduceAdd, Nat.reduceMul, Nat.reduceSub, Nat.reduceBEq, Nat.reduceLT, Nat.reduceLeDiff, reduceIte, reduceCtorEq, Int.reduceToNat, Int.reduceLE, Int.reduceLT, Int.reduceNe, Int.reduceMul, Int.reduceAdd, Int.reduceSub, Int.reduceDiv, Int.reduceMod, Int.reduceEq, Int.reduceGE, Int.reduceGT, Int.reduceNeg, Int.reduceBEq, Int.reduceBNe, Nat.reduceEqDiff, d5]
        exact aret [2] rfl ⟨by simp [resV, Av.get, numberL, d5], rfl⟩
      have d5 : decide (((caps s).length : Int) > 5) = false := by simpa using h5
      refine go (N := 56) Tryz.ntmps24 300 ?_
      simp only [go_sem, Nat.reduceAdd, Nat.reduceMul, Nat.reduceSub, Nat.reduceBEq, Nat.reduceLT, Nat.reduceLeDiff, reduceIte, reduceCtorEq, Int.reduceToNat, Int.reduceLE, Int.reduceLT, Int.reduceNe, Int.reduceMul, Int.reduceAdd, Int.reduceSub, Int.reduceDiv, Int.reduceMod, Int.reduceEq, Int.reduceGE, Int.reduceGT, Int.reduceNeg, Int.reduceBEq, Int.reduceBNe, Nat.reduceEqDiff, d5]
      refine pcall1 (hasSuffix_pc (caps s) [65] (by omega)) rfl (N := 56) Tryz.ntmps24 rfl (go (N := 56) Tryz.ntmps24 300 ?_)
      cases e6 : Lib.hasSuffix (caps s) [65] with
      | true =>
        simp only [go_sem, Nat.reduceAdd, Nat.reduceMul, Nat.reduceSub, Nat.reduceBEq, Nat.reduceLT, Nat.reduceLeDiff, reduceIte, reduceCtorEq, Int.reduceToNat, Int.reduceLE, Int.reduceLT, Int.reduceNe, Int.reduceMul, Int.reduceAdd, Int.reduceSub, Int.reduceDiv, Int.reduceMod, Int.reduceEq, Int.reduceGE, Int.reduceGT, Int.reduceNeg, Int.reduceBEq, Int.reduceBNe, Nat.reduceEqDiff]
        exact aret [2] rfl ⟨by simp [resV, Av.get, numberL, e6], rfl⟩
      | false =>
      by_cases h7 : digs s = [48]
      · have d7 : (digs s == [48]) = true := by simpa using h7
        simp only [go_sem, Nat.reduceAdd, Nat.reduceMul, Nat.reduceSub, Nat.reduceBEq, Nat.reduceLT, Nat.reduceLeDiff, reduceIte, reduceCtorEq, Int.reduceToNat, Int.reduceLE, Int.reduceLT, Int.reduceNe, Int.reduceMul, Int.reduceAdd, Int.reduceSub, Int.reduceDiv, Int.reduceMod, Int.reduceEq, Int.reduceGE, Int.reduceGT, Int.reduceNeg, Int.reduceBEq, Int.reduceBNe, Nat.reduceEqDiff, etk, d7]
        refine ⟨by omega, by omega, ?_⟩
        exact aret [2] rfl ⟨by simp [resV, Av.get, numberL, h7, d5, e6, hc], rfl⟩
      have d7 : (digs s == [48]) = false := by simpa using h7
      by_cases h8 : ((digs s).length : Int) ≥ 1
      · have d8 : decide (((digs s).length : Int) ≥ 1) = true := by simpa using h8
        have d8' : decide (1 ≤ (digs s).length) = true := by simp; omega
        by_cases h9 : ((digs s).length : Int) ≤ 3
        · have d9 : decide (((digs s).length : Int) ≤ 3) = true := by simpa using h9
          have d9' : decide ((digs s).length ≤ 3) = true := by simp; omega
          simp only [go_sem, Nat.reduceAdd, Nat.reduceMul, Nat.reduceSub, Nat.reduceBEq, Nat.reduceLT, Nat.reduceLeDiff, reduceIte, reduceCtorEq, Int.reduceToNat, Int.reduceLE, Int.reduceLT, Int.reduceNe, Int.reduceMul, Int.reduceAdd, Int.reduceSub, Int.reduceDiv, Int.reduceMod, Int.reduceEq, Int.reduceGE, Int.reduceGT, Int.reduceNeg, Int.reduceBEq, Int.reduceBNe, Nat.reduceEqDiff, etk, d7, d8, d9]
          refine ⟨by omega, by omega, by omega, ?_⟩
          exact aret [2] rfl ⟨by simp only [resV, Av.get, numberL, d5, e6, hc, if_neg h7, d8', d9']; rfl, rfl⟩
        · have d9 : decide (((digs s).length : Int) ≤ 3) = false := by simpa using h9
          have d9' : decide ((digs s).length ≤ 3) = false := by simp; omega
          simp only [go_sem, Nat.reduceAdd, Nat.reduceMul, Nat.reduceSub, Nat.reduceBEq, Nat.reduceLT, Nat.reduceLeDiff, reduceIte, reduceCtorEq, Int.reduceToNat, Int.reduceLE, Int.reduceLT, Int.reduceNe, Int.reduceMul, Int.reduceAdd, Int.reduceSub, Int.reduceDiv, Int.reduceMod, Int.reduceEq, Int.reduceGE, Int.reduceGT, Int.reduceNeg, Int.reduceBEq, Int.reduceBNe, Nat.reduceEqDiff, etk, d7, d8, d9]
          refine ⟨by omega, by omega, ?_⟩
          exact aret [2] rfl ⟨by simp only [resV, Av.get, numberL, d5, e6, hc, if_neg h7, d8', d9']; rfl, rfl⟩
      · have d8 : decide (((digs s).length : Int) ≥ 1) = false := by simpa using h8
        have d8' : decide (1 ≤ (digs s).length) = false := decide_eq_false (by omega)
        simp only [go_sem, Nat.reduceAdd, Nat.reduceMul, Nat.reduceSub, Nat.reduceBEq, Nat.reduceLT, Nat.reduceLeDiff, reduceIte, reduceCtorEq, Int.reduceToNat, Int.reduceLE, Int.reduceLT, Int.reduceNe, Int.reduceMul, Int.reduceAdd, Int.reduceSub, Int.reduceDiv, Int.reduceMod, Int.reduceEq, Int.reduceGE, Int.reduceGT, Int.reduceNeg, Int.reduceBEq, Int.reduceBNe, Nat.reduceEqDiff, etk, d7, d8]
        refine ⟨by omega, by omega, ?_⟩
        exact aret [2] rfl ⟨by simp only [resV, Av.get, numberL, d5, e6, hc, if_neg h7, d8']; rfl, rfl⟩
    · rintro i ⟨g1, g2⟩ J Q hJ hQ
      refine go (N := 56) Tryz.ntmps24 300 ?_
      by_cases hi : (i : Int) < (caps s).length
      · have hil : i < (caps s).length := by omega
        have hgd : (caps s).getD i 0 = (caps s)[i] := by simp [List.getD, hil]
        simp only [go_sem, Nat.reduceAdd, Nat.reduceMul, Nat.reduceSub, Nat.reduceBEq, Nat.reduceLT, Nat.reduceLeDiff, reduceIte, reduceCtorEq, Int.reduceToNat, Int.reduceLE, Int.reduceLT, Int.reduceNe, Int.reduceMul, Int.reduceAdd, Int.reduceSub, Int.reduceDiv, Int.reduceMod, Int.reduceEq, Int.reduceGE, Int.reduceGT, Int.reduceNeg, Int.reduceBEq, Int.reduceBNe, Nat.reduceEqDiff, hi, hgd]
        refine ⟨by omega, ?_⟩
        refine pcall1 (isCapital_pc _) rfl (N := 56) Tryz.ntmps24 rfl (go (N := 56) Tryz.ntmps24 300 ?_)
        cases c1 : capI ((caps s)[i].toNat : Int) with
        | true =>
          simp only [go_sem, Nat.reduceAdd, Nat.reduceMul, Nat.reduceSub, Nat.reduceBEq, Nat.reduceLT, Nat.reduceLeDiff, reduceIte, reduceCtorEq, Int.reduceToNat, Int.reduceLE, Int.reduceLT, Int.reduceNe, Int.reduceMul, Int.reduceAdd, Int.reduceSub, Int.reduceDiv, Int.reduceMod, Int.reduceEq, Int.reduceGE, Int.reduceGT, Int.reduceNeg, Int.reduceBEq, Int.reduceBNe, Nat.reduceEqDiff]
          rw [show (i : Int) + 1 = ((i + 1 : Nat) : Int) by omega]
          repeat refine And.intro (by omega) ?_
          refine ainv (hJ (i + 1) ⟨by omega, all_take_succ hil g2 c1⟩ (by omega)) (Shift.weak ?_)
          simp only [wk, go_sem, Nat.reduceAdd, Nat.reduceMul, Nat.reduceSub, Nat.reduceBEq, Nat.reduceLT, Nat.reduceLeDiff, reduceIte, reduceCtorEq, Int.reduceToNat, Int.reduceLE, Int.reduceLT, Int.reduceNe, Int.reduceMul, Int.reduceAdd, Int.reduceSub, Int.reduceDiv, Int.reduceMod, Int.reduceEq, Int.reduceGE, Int.reduceGT, Int.reduceNeg, Int.reduceBEq, Int.reduceBNe, Nat.reduceEqDiff]
        | false =>
          simp only [go_sem, Nat.reduceAdd, Nat.reduceMul, Nat.reduceSub, Nat.reduceBEq, Nat.reduceLT, Nat.reduceLeDiff, reduceIte, reduceCtorEq, Int.reduceToNat, Int.reduceLE, Int.reduceLT, Int.reduceNe, Int.reduceMul, Int.reduceAdd, Int.reduceSub, Int.reduceDiv, Int.reduceMod, Int.reduceEq, Int.reduceGE, Int.reduceGT, Int.reduceNeg, Int.reduceBEq, Int.reduceBNe, Nat.reduceEqDiff]
          exact aret [2] rfl ⟨by simp [resV, Av.get, numberL, all_false_at hil (p := capB) c1], rfl⟩
      · simp only [go_sem, Nat.reduceAdd, Nat.reduceMul, Nat.reduceSub, Nat.reduceBEq, Nat.reduceLT, Nat.reduceLeDiff, reduceIte, reduceCtorEq, Int.reduceToNat, Int.reduceLE, Int.reduceLT, Int.reduceNe, Int.reduceMul, Int.reduceAdd, Int.reduceSub, Int.reduceDiv, Int.reduceMod, Int.reduceEq, Int.reduceGE, Int.reduceGT, Int.reduceNeg, Int.reduceBEq, Int.reduceBNe, Nat.reduceEqDiff, hi]
        have hall : (caps s).all capB = true := by
          have ht : (caps s).take i = caps s := List.take_of_length_le (by omega)
          rw [ht] at g2; exact g2
        refine ainv (hQ () hall) (Shift.weak ?_)
        simp only [wk, go_sem, Nat.reduceAdd, Nat.reduceMul, Nat.reduceSub, Nat.reduceBEq, Nat.reduceLT, Nat.reduceLeDiff, reduceIte, reduceCtorEq, Int.reduceToNat, Int.reduceLE, Int.reduceLT, Int.reduceNe, Int.reduceMul, Int.reduceAdd, Int.reduceSub, Int.reduceDiv, Int.reduceMod, Int.reduceEq, Int.reduceGE, Int.reduceGT, Int.reduceNeg, Int.reduceBEq, Int.reduceBNe, Nat.reduceEqDiff]
  · rintro i ⟨g1, g2⟩ J Q hJ hQ
    have out : (i = s.length ∨ digB (s.getD i 0) = false) → ((digs s).length = i ∧ s = digs s ++ caps s) := fun e => by
      obtain ⟨e1, e2⟩ := takeWhile_at g1 g2 e
      exact ⟨by rw [digs, e1]; simp; omega, by simp [digs, caps]⟩
    refine go (N := 56) Tryz.ntmps24 300 ?_
    by_cases hi : (i : Int) < s.length
    · have hil : i < s.length := by omega
      have hgd : s.getD i 0 = s[i] := by simp [List.getD, hil]
      simp only [go_sem, Nat.reduceAdd, Nat.reduceMul, Nat.reduceSub, Nat.reduceBEq, Nat.reduceLT, Nat.reduceLeDiff, reduceIte, reduceCtorEq, Int.reduceToNat, Int.reduceLE, Int.reduceLT, Int.reduceNe, Int.reduceMul, Int.reduceAdd, Int.reduceSub, Int.reduceDiv, Int.reduceMod, Int.reduceEq, Int.reduceGE, Int.reduceGT, Int.reduceNeg, Int.reduceBEq, Int.reduceBNe, Nat.reduceEqDiff, hi, hgd]
      refine ⟨by omega, ?_⟩
      refine pcall1 (isDigit_pc _) rfl (N := 56) Tryz.ntmps24 rfl (go (N := 56) Tryz.ntmps24 300 ?_)
      cases c1 : digI (s[i].toNat : Int) with
      | true =>
        simp only [go_sem, Nat.reduceAdd, Nat.reduceMul, Nat.reduceSub, Nat.reduceBEq, Nat.reduceLT, Nat.reduceLeDiff, reduceIte, reduceCtorEq, Int.reduceToNat, Int.reduceLE, Int.reduceLT, Int.reduceNe, Int.reduceMul, Int.reduceAdd, Int.reduceSub, Int.reduceDiv, Int.reduceMod, Int.reduceEq, Int.reduceGE, Int.reduceGT, Int.reduceNeg, Int.reduceBEq, Int.reduceBNe, Nat.reduceEqDiff]
        rw [show (i : Int) + 1 = ((i + 1 : Nat) : Int) by omega]
        repeat refine And.intro (by omega) ?_
        refine ainv (hJ (i + 1) ⟨by omega, all_take_succ hil g2 c1⟩ (by omega)) (Shift.weak ?_)
        simp only [wk, go_sem, Nat.reduceAdd, Nat.reduceMul, Nat.reduceSub, Nat.reduceBEq, Nat.reduceLT, Nat.reduceLeDiff, reduceIte, reduceCtorEq, Int.reduceToNat, Int.reduceLE, Int.reduceLT, Int.reduceNe, Int.reduceMul, Int.reduceAdd, Int.reduceSub, Int.reduceDiv, Int.reduceMod, Int.reduceEq, Int.reduceGE, Int.reduceGT, Int.reduceNeg, Int.reduceBEq, Int.reduceBNe, Nat.reduceEqDiff]
      | false =>
        obtain ⟨e1, e2⟩ := out (.inr (by rw [hgd]; exact c1))
        simp only [go_sem, Nat.reduceAdd, Nat.reduceMul, Nat.reduceSub, Nat.reduceBEq, Nat.reduceLT, Nat.reduceLeDiff, reduceIte, reduceCtorEq, Int.reduceToNat, Int.reduceLE, Int.reduceLT, Int.reduceNe, Int.reduceMul, Int.reduceAdd, Int.reduceSub, Int.reduceDiv, Int.reduceMod, Int.reduceEq, Int.reduceGE, Int.reduceGT, Int.reduceNeg, Int.reduceBEq, Int.reduceBNe, Nat.reduceEqDiff]
        refine ainv (hQ () e2) (Shift.weak ?_)
        rw [e1]
        simp only [wk, go_sem, Nat.reduceAdd, Nat.reduceMul, Nat.reduceSub, Nat.reduceBEq, Nat.reduceLT, Nat.reduceLeDiff, reduceIte, reduceCtorEq, Int.reduceToNat, Int.reduceLE, Int.reduceLT, Int.reduceNe, Int.reduceMul, Int.reduceAdd, Int.reduceSub, Int.reduceDiv, Int.reduceMod, Int.reduceEq, Int.reduceGE, Int.reduceGT, Int.reduceNeg, Int.reduceBEq, Int.reduceBNe, Nat.reduceEqDiff]
    · simp only [go_sem, Nat.reduceAdd, Nat.reduceMul, Nat.reduceSub, Nat.reduceBEq, Nat.reduceLT, Nat.reduceLeDiff, reduceIte, reduceCtorEq, Int.reduceToNat, Int.reduceLE, Int.reduceLT, Int.reduceNe, Int.reduceMul, Int.reduceAdd, Int.reduceSub, Int.reduceDiv, Int.reduceMod, Int.reduceEq, Int.reduceGE, Int.reduceGT, Int.reduceNeg, Int.reduceBEq, Int.reduceBNe, Nat.reduceEqDiff, hi]
      obtain ⟨e1, e2⟩ := out (.inl (by omega))
      refine ainv (hQ () e2) (Shift.weak ?_)
      rw [e1]
      simp only [wk, go_sem, Nat.reduceAdd, Nat.reduceMul, Nat.reduceSub, Nat.reduceBEq, Nat.reduceLT, Nat.reduceLeDiff, reduceIte, reduceCtorEq, Int.reduceToNat, Int.reduceLE, Int.reduceLT, Int.reduceNe, Int.reduceMul, Int.reduceAdd, Int.reduceSub, Int.reduceDiv, Int.reduceMod, Int.reduceEq, Int.reduceGE, Int.reduceGT, Int.reduceNeg, Int.reduceBEq, Int.reduceBNe, Nat.reduceEqDiff]

/-- a number's digits, as a number -/
def pN (s : List UInt8) : Int := (Lib.atoi (digs s)).getD 0
def okD (s : List UInt8) : Prop := 1 ≤ (digs s).length ∧ (digs s).length ≤ 18

theorem digB_val {c : UInt8} (h : digB c = true) : Lib.digitVal c = some (c.toNat - 48) := by
  simp only [digB, digI, Bool.and_eq_true, decide_eq_true_eq] at h
  unfold Lib.digitVal
  rw [if_pos (by omega)]
theorem decFrom_digs : ∀ (l : List UInt8) (acc : Nat), l.all digB = true → ∃ n, Lib.decFrom acc l = some n
  | [], acc, _ => ⟨acc, rfl⟩
  | c :: l, acc, h => by
    simp only [List.all_cons, Bool.and_eq_true] at h
    obtain ⟨n, hn⟩ := decFrom_digs l (acc * 10 + (c.toNat - 48)) h.2
    exact ⟨n, by rw [Lib.decFrom, digB_val h.1]; exact hn⟩
theorem digs_all (s : List UInt8) : (digs s).all digB = true := List.all_takeWhile

theorem atoi_digs {s : List UInt8} (h : okD s) : Lib.atoi (digs s) = some (pN s) := by
  obtain ⟨n, hn⟩ := decFrom_digs (digs s) 0 (digs_all s)
  have h1 := h.1
  have ha := digs_all s
  have key : Lib.atoi (digs s) = some (n : Int) := by
    cases hq : digs s with
    | nil => simp [hq] at h1
    | cons b r =>
      rw [hq] at hn ha
      simp only [List.all_cons, Bool.and_eq_true, digB, digI, decide_eq_true_eq] at ha
      have b1 : (b == 45) = false := by
        cases hb : b == 45 with
        | false => rfl
        | true => have : b = 45 := by simpa using hb
                  subst this; exact absurd ha.1.1 (by decide)
      have b2 : (b == 43) = false := by
        cases hb : b == 43 with
        | false => rfl
        | true => have : b = 43 := by simpa using hb
                  subst this; exact absurd ha.1.1 (by decide)
      simp [Lib.atoi, b1, b2, Lib.decNat, hn]
  rw [pN, key]; rfl

theorem same_below {w w' : World} (b : Below w.heap.size w w') : Same w w' := ⟨b.os, b.tape, b.output, b.size, b.block⟩
theorem one_str (s : List UInt8) : ∀ h vs', RL h Lf0 true vs' [.str s] → vs' = [.string ⟨s.toArray⟩] := by
  intro h vs' r
  cases r with | cons r1 r => cases r; rw [rv_str r1]
theorem one_int (k : IntKind) (n : Int) : ∀ h vs', RL h Lf0 true vs' [.int k n] → vs' = [.int k n] := by
  intro h vs' r
  cases r with | cons r1 r => cases r; rw [rv_int r1]
theorem str_int (s : List UInt8) (k : IntKind) (n : Int) : ∀ h vs', RL h Lf0 true vs' [.str s, .int k n] → vs' = [.string ⟨s.toArray⟩, .int k n] := by
  intro h vs' r
  cases r with | cons r1 r => cases r with | cons r2 r => cases r; rw [rv_str r1, rv_int r2]

theorem atoi_pc (s : List UInt8) (n : Int) (hl : s.length ≤ 18) (h : Lib.atoi s = some n) : Pc Tryz.prog 88 [.str s] (· = .tup [.int .i64 n, .raw .nilIface]) :=
  pc_lib [_] (.tuple #[.int .i64 n, .nilIface]) hB88 (one_str s) (fun h => .tup [_, _] [_, _] (.cons (.int _ _) (.cons (.raw _) .nil)))
    fun w => (Any.strconv_Atoi Tryz.lays172 ⟨s.toArray⟩ n (by simpa [ByteArray.size] using hl) h w).mono fun e w' ⟨h1, t, h2⟩ => ⟨h1, h2 ▸ same_below (Lib.bytesWorld_below _ _ _)⟩
theorem compare_str_pc (a b : List UInt8) : Pc Tryz.prog 60 [.str a, .str b] (· = .int .i64 (Lib.compareBytes a b)) :=
  pc_lib [_, _] (.int .i64 (Lib.compareBytes a b)) hB60 (two_strs a b) (fun h => .int _ _) fun w => (Any.strings_Compare Tryz.lays106 ⟨a.toArray⟩ ⟨b.toArray⟩ w).mono fun e w' ⟨h1, h2⟩ => ⟨h1, h2 ▸ .refl w⟩
theorem repeat_pc (s : List UInt8) (c : Nat) (hlen : s.length * c ≤ 1000000) (hc : c ≤ 1000000) : Pc Tryz.prog 133 [.str s, .int .i64 c] (· = .str (Lib.repeatL s c)) :=
  pc_lib [_, .int .i64 c] (.string ⟨(Lib.repeatL s c).toArray⟩) hB133 (str_int s .i64 c) (fun h => .str _)
    fun w => (Any.strings_Repeat Tryz.lays105 Tryz.Builder_Extra_105 ⟨s.toArray⟩ c w (by omega) (by simp [ByteArray.size]; omega)).mono fun e w' ⟨h1, h2⟩ => ⟨h1, same_below h2⟩

theorem parse_pc (s : List UInt8) (hs : s.length < 1000000) (hd : okD s) : Pc Tryz.prog 57 [.str s] (· = .agg [.int .i64 (pN s), .str (caps s)]) := by
  refine pc_intro (ct_intro Tryz.func57 rfl Tryz.ntmps57 hB57 (by simp) fun h ρ w => go (N := 36) Tryz.ntmps57 300 ?_)
  simp only [go_sem, Nat.reduceAdd, Nat.reduceMul, Nat.reduceSub, Nat.reduceBEq, Nat.reduceLT, Nat.reduceLeDiff, reduceIte, reduceCtorEq, Int.reduceToNat, Int.reduceLE, Int.reduceLT, Int.reduceNe, Int.reduceMul, Int.reduceAdd, Int.reduceSub, Int.reduceDiv, Int.reduceMod, Int.reduceEq, Int.reduceGE, Int.reduceGT, Int.reduceNeg, Int.reduceBEq, Int.reduceBNe, Nat.reduceEqDiff]
  refine aloopX (ι := Nat) (κ := Unit) (fun i => s.length - i) (fun i => [(3, .int .i64 i), (2, .ptr 0 1 0 0), (0, .str s)]) (fun _ => [.arr 2 [.agg [.int .i64 0, .str []]]]) (fun i => i ≤ s.length ∧ (s.take i).all digB = true)
    (fun _ => [(3, .int .i64 (digs s).length), (2, .ptr 0 1 0 0), (0, .str s)]) (fun _ => [.arr 2 [.agg [.int .i64 0, .str []]]]) (fun _ => s = digs s ++ caps s) 0 ⟨by omega, by simp⟩ ?_ ?_ ?_
  · refine Shift.weak ?_
    simp only [wk, go_sem, Nat.reduceAdd, Nat.reduceMul, Nat.reduceSub, Nat.reduceBEq, Nat.reduceLT, Nat.reduceLeDiff, reduceIte, reduceCtorEq, Int.reduceToNat, Int.reduceLE, Int.reduceLT, Int.reduceNe, Int.reduceMul, Int.reduceAdd, Int.reduceSub, Int.reduceDiv, Int.reduceMod, Int.reduceEq, Int.reduceGE, Int.reduceGT, Int.reduceNeg, Int.reduceBEq, Int.reduceBNe, Nat.reduceEqDiff]
  · rintro - hd'
    have hdl : (digs s).length ≤ s.length := (congrArg List.length hd').symm ▸ by simp
    have edr : List.drop (digs s).length s = caps s := (congrArg (List.drop (digs s).length) hd').trans (by simp)
    have etk : List.take (digs s).length s = digs s := (congrArg (List.take (digs s).length) hd').trans (by simp)
    refine go (N := 36) Tryz.ntmps57 300 ?_
    simp only [go_sem, Nat.reduceAdd, Nat.reduceMul, Nat.reduceSub, Nat.reduceBEq, Nat.reduceLT, Nat.reduceLeDiff, reduceIte, reduceCtorEq, Int.reduceToNat, Int.reduceLE, Int.reduceLT, Int.reduceNe, Int.reduceMul, Int.reduceAdd, Int.reduceSub, Int.reduceDiv, Int.reduceMod, Int.reduceEq, Int.reduceGE, Int.reduceGT, Int.reduceNeg, Int.reduceBEq, Int.reduceBNe, Nat.reduceEqDiff, etk]
    refine ⟨by omega, by omega, ?_⟩
    refine pcall1 (atoi_pc (digs s) (pN s) hd.2 (atoi_digs hd)) rfl (N := 36) Tryz.ntmps57 rfl (go (N := 36) Tryz.ntmps57 300 ?_)
    simp only [go_sem, Nat.reduceAdd, Nat.reduceMul, Nat.reduceSub, Nat.reduceBEq, Nat.reduceLT, Nat.reduceLeDiff, reduceIte, reduceCtorEq, Int.reduceToNat, Int.reduceLE, Int.reduceLT, Int.reduceNe, Int.reduceMul, Int.reduceAdd, Int.reduceSub, Int.reduceDiv, Int.reduceMod, Int.reduceEq, Int.reduceGE, Int.reduceGT, Int.reduceNeg, Int.reduceBEq, Int.reduceBNe, Nat.reduceEqDiff, edr]
    refine ⟨by omega, by omega, ?_⟩
    refine ⟨by omega, aretc [.cell 2 97] rfl [.agg [.int .i64 (pN s), .str (caps s)]] ⟨?_, trivial⟩ ⟨rfl, rfl⟩⟩
    simp only [go_sem, Nat.reduceAdd, Nat.reduceMul, Nat.reduceSub, Nat.reduceBEq, Nat.reduceLT, Nat.reduceLeDiff, reduceIte, reduceCtorEq, Int.reduceToNat, Int.reduceLE, Int.reduceLT, Int.reduceNe, Int.reduceMul, Int.reduceAdd, Int.reduceSub, Int.reduceDiv, Int.reduceMod, Int.reduceEq, Int.reduceGE, Int.reduceGT, Int.reduceNeg, Int.reduceBEq, Int.reduceBNe, Nat.reduceEqDiff, sideIs]
  · rintro i ⟨g1, g2⟩ J Q hJ hQ
    have out : (i = s.length ∨ digB (s.getD i 0) = false) → ((digs s).length = i ∧ s = digs s ++ caps s) := fun e => by
      obtain ⟨e1, e2⟩ := takeWhile_at g1 g2 e
      exact ⟨by rw [digs, e1]; simp; omega, by simp [digs, caps]⟩
    refine go (N := 36) Tryz.ntmps57 300 ?_
    by_cases hi : (i : Int) < s.length
    · have hil : i < s.length := by omega
      have hgd : s.getD i 0 = s[i] := by simp [List.getD, hil]
      have hb : digB s[i] = (decide ((s[i].toNat : Int) ≥ 48) && decide ((s[i].toNat : Int) ≤ 57)) := rfl
      cases c1 : decide ((s[i].toNat : Int) ≥ 48) with
      | true =>
        cases c2 : decide ((s[i].toNat : Int) ≤ 57) with
        | true =>
          simp only [go_sem, Nat.reduceAdd, Nat.reduceMul, Nat.reduceSub, Nat.reduceBEq, Nat.reduceLT, Nat.reduceLeDiff, reduceIte, reduceCtorEq, Int.reduceToNat, Int.reduceLE, Int.reduceLT, Int.reduceNe, Int.reduceMul, Int.reduceAdd, Int.reduceSub, Int.reduceDiv, Int.reduceMod, Int.reduceEq, Int.reduceGE, Int.reduceGT, Int.reduceNeg, Int.reduceBEq, Int.reduceBNe, Nat.reduceEqDiff, hi, hgd, c1, c2]
          rw [show (i : Int) + 1 = ((i + 1 : Nat) : Int) by omega]
          repeat refine And.intro (by omega) ?_
          refine ainv (hJ (i + 1) ⟨by omega, all_take_succ hil g2 (by rw [hb, c1, c2]; rfl)⟩ (by omega)) (Shift.weak ?_)
          simp only [wk, go_sem, Nat.reduceAdd, Nat.reduceMul, Nat.reduceSub, Nat.reduceBEq, Nat.reduceLT, Nat.reduceLeDiff, reduceIte, reduceCtorEq, Int.reduceToNat, Int.reduceLE, Int.reduceLT, Int.reduceNe, Int.reduceMul, Int.reduceAdd, Int.reduceSub, Int.reduceDiv, Int.reduceMod, Int.reduceEq, Int.reduceGE, Int.reduceGT, Int.reduceNeg, Int.reduceBEq, Int.reduceBNe, Nat.reduceEqDiff]
        | false =>
          obtain ⟨e1, e2⟩ := out (.inr (by rw [hgd, hb, c1, c2]; rfl))
          simp only [go_sem, Nat.reduceAdd, Nat.reduceMul, Nat.reduceSub, Nat.reduceBEq, Nat.reduceLT, Nat.reduceLeDiff, reduceIte, reduceCtorEq, Int.reduceToNat, Int.reduceLE, Int.reduceLT, Int.reduceNe, Int.reduceMul, Int.reduceAdd, Int.reduceSub, Int.reduceDiv, Int.reduceMod, Int.reduceEq, Int.reduceGE, Int.reduceGT, Int.reduceNeg, Int.reduceBEq, Int.reduceBNe, Nat.reduceEqDiff, hi, hgd, c1, c2]
          repeat refine And.intro (by omega) ?_
          refine ainv (hQ () e2) (Shift.weak ?_)
          rw [e1]
          simp only [wk, go_sem, Nat.reduceAdd, Nat.reduceMul, Nat.reduceSub, Nat.reduceBEq, Nat.reduceLT, Nat.reduceLeDiff, reduceIte, reduceCtorEq, Int.reduceToNat, Int.reduceLE, Int.reduceLT, Int.reduceNe, Int.reduceMul, Int.reduceAdd, Int.reduceSub, Int.reduceDiv, Int.reduceMod, Int.reduceEq, Int.reduceGE, Int.reduceGT, Int.reduceNeg, Int.reduceBEq, Int.reduceBNe, Nat.reduceEqDiff]
      | false =>
        obtain ⟨e1, e2⟩ := out (.inr (by rw [hgd, hb, c1]; rfl))
        simp only [go_sem, Nat.reduceAdd, Nat.reduceMul, Nat.reduceSub, Nat.reduceBEq, Nat.reduceLT, Nat.reduceLeDiff, reduceIte, reduceCtorEq, Int.reduceToNat, Int.reduceLE, Int.reduceLT, Int.reduceNe, Int.reduceMul, Int.reduceAdd, Int.reduceSub, Int.reduceDiv, Int.reduceMod, Int.reduceEq, Int.reduceGE, Int.reduceGT, Int.reduceNeg, Int.reduceBEq, Int.reduceBNe, Nat.reduceEqDiff, hi, hgd, c1]
        repeat refine And.intro (by omega) ?_
        refine ainv (hQ () e2) (Shift.weak ?_)
        rw [e1]
        simp only [wk, go_sem, Nat.reduceAdd, Nat.reduceMul, Nat.reduceSub, Nat.reduceBEq, Nat.reduceLT, Nat.reduceLeDiff, reduceIte, reduceCtorEq, Int.reduceToNat, Int.reduceLE, Int.reduceLT, Int.reduceNe, Int.reduceMul, Int.reduceAdd, Int.reduceSub, Int.reduceDiv, Int.reduceMod, Int.reduceEq, Int.reduceGE, Int.reduceGT, Int.reduceNeg, Int.reduceBEq, Int.reduceBNe, Nat.reduceEqDiff]
    · simp only [go_sem, Nat.reduceAdd, Nat.reduceMul, Nat.reduceSub, Nat.reduceBEq, Nat.reduceLT, Nat.reduceLeDiff, reduceIte, reduceCtorEq, Int.reduceToNat, Int.reduceLE, Int.reduceLT, Int.reduceNe, Int.reduceMul, Int.reduceAdd, Int.reduceSub, Int.reduceDiv, Int.reduceMod, Int.reduceEq, Int.reduceGE, Int.reduceGT, Int.reduceNeg, Int.reduceBEq, Int.reduceBNe, Nat.reduceEqDiff, hi]
      obtain ⟨e1, e2⟩ := out (.inl (by omega))
      refine ainv (hQ () e2) (Shift.weak ?_)
      rw [e1]
      simp only [wk, go_sem, Nat.reduceAdd, Nat.reduceMul, Nat.reduceSub, Nat.reduceBEq, Nat.reduceLT, Nat.reduceLeDiff, reduceIte, reduceCtorEq, Int.reduceToNat, Int.reduceLE, Int.reduceLT, Int.reduceNe, Int.reduceMul, Int.reduceAdd, Int.reduceSub, Int.reduceDiv, Int.reduceMod, Int.reduceEq, Int.reduceGE, Int.reduceGT, Int.reduceNeg, Int.reduceBEq, Int.reduceBNe, Nat.reduceEqDiff]

theorem isNaN_int_pc (x : Int) : Pc Tryz.prog 89 [.int .i64 x] (· = .bool false) := by
  refine pc_intro (ct_intro Tryz.func89 rfl Tryz.ntmps89 hB89 (by simp) fun h ρ w => go (N := 6) Tryz.ntmps89 300 ?_)
  simp only [go_sem, Nat.reduceAdd, Nat.reduceMul, Nat.reduceSub, Nat.reduceBEq, Nat.reduceLT, Nat.reduceLeDiff, reduceIte, reduceCtorEq, Int.reduceToNat, Int.reduceLE, Int.reduceLT, Int.reduceNe, Int.reduceMul, Int.reduceAdd, Int.reduceSub, Int.reduceDiv, Int.reduceMod, Int.reduceEq, Int.reduceGE, Int.reduceGT, Int.reduceNeg, Int.reduceBEq, Int.reduceBNe, Nat.reduceEqDiff]
  exact aret [2] rfl ⟨by simp [resV, Av.get], rfl⟩

def cmpI (x y : Int) : Int := if x < y then -1 else if x > y then 1 else 0

theorem cmp_int_pc (x y : Int) : Pc Tryz.prog 59 [.int .i64 x, .int .i64 y] (· = .int .i64 (cmpI x y)) := by
  refine pc_intro (ct_intro Tryz.func59 rfl Tryz.ntmps59 hB59 (by simp) fun h ρ w => go (N := 20) Tryz.ntmps59 300 ?_)
  simp only [go_sem, Nat.reduceAdd, Nat.reduceMul, Nat.reduceSub, Nat.reduceBEq, Nat.reduceLT, Nat.reduceLeDiff, reduceIte, reduceCtorEq, Int.reduceToNat, Int.reduceLE, Int.reduceLT, Int.reduceNe, Int.reduceMul, Int.reduceAdd, Int.reduceSub, Int.reduceDiv, Int.reduceMod, Int.reduceEq, Int.reduceGE, Int.reduceGT, Int.reduceNeg, Int.reduceBEq, Int.reduceBNe, Nat.reduceEqDiff]
  refine pcall1 (isNaN_int_pc _) rfl (N := 20) Tryz.ntmps59 rfl (go (N := 20) Tryz.ntmps59 300 ?_)
  simp only [go_sem, Nat.reduceAdd, Nat.reduceMul, Nat.reduceSub, Nat.reduceBEq, Nat.reduceLT, Nat.reduceLeDiff, reduceIte, reduceCtorEq, Int.reduceToNat, Int.reduceLE, Int.reduceLT, Int.reduceNe, Int.reduceMul, Int.reduceAdd, Int.reduceSub, Int.reduceDiv, Int.reduceMod, Int.reduceEq, Int.reduceGE, Int.reduceGT, Int.reduceNeg, Int.reduceBEq, Int.reduceBNe, Nat.reduceEqDiff]
  refine pcall1 (isNaN_int_pc _) rfl (N := 20) Tryz.ntmps59 rfl (go (N := 20) Tryz.ntmps59 300 ?_)
  by_cases h1 : x < y
  · have d1 : decide (x < y) = true := by simpa using h1
    simp only [go_sem, Nat.reduceAdd, Nat.reduceMul, Nat.reduceSub, Nat.reduceBEq, Nat.reduceLT, Nat.reduceLeDiff, reduceIte, reduceCtorEq, Int.reduceToNat, Int.reduceLE, Int.reduceLT, Int.reduceNe, Int.reduceMul, Int.reduceAdd, Int.reduceSub, Int.reduceDiv, Int.reduceMod, Int.reduceEq, Int.reduceGE, Int.reduceGT, Int.reduceNeg, Int.reduceBEq, Int.reduceBNe, Nat.reduceEqDiff, d1]
    exact aret [4] rfl ⟨by simp [resV, Av.get, cmpI, h1], rfl⟩
  have d1 : decide (x < y) = false := by simpa using h1
  by_cases h2 : x > y
  · have d2 : decide (x > y) = true := by simpa using h2
    simp only [go_sem, Nat.reduceAdd, Nat.reduceMul, Nat.reduceSub, Nat.reduceBEq, Nat.reduceLT, Nat.reduceLeDiff, reduceIte, reduceCtorEq, Int.reduceToNat, Int.reduceLE, Int.reduceLT, Int.reduceNe, Int.reduceMul, Int.reduceAdd, Int.reduceSub, Int.reduceDiv, Int.reduceMod, Int.reduceEq, Int.reduceGE, Int.reduceGT, Int.reduceNeg, Int.reduceBEq, Int.reduceBNe, Nat.reduceEqDiff, d1, d2]
    exact aret [4] rfl ⟨by simp [resV, Av.get, cmpI, h1, h2], rfl⟩
  have d2 : decide (x > y) = false := by simpa using h2
  simp only [go_sem, Nat.reduceAdd, Nat.reduceMul, Nat.reduceSub, Nat.reduceBEq, Nat.reduceLT, Nat.reduceLeDiff, reduceIte, reduceCtorEq, Int.reduceToNat, Int.reduceLE, Int.reduceLT, Int.reduceNe, Int.reduceMul, Int.reduceAdd, Int.reduceSub, Int.reduceDiv, Int.reduceMod, Int.reduceEq, Int.reduceGE, Int.reduceGT, Int.reduceNeg, Int.reduceBEq, Int.reduceBNe, Nat.reduceEqDiff, d1, d2]
  exact aret [4] rfl ⟨by simp [resV, Av.get, cmpI, h1, h2], rfl⟩

def orI (x y : Int) : Int := if x = 0 then y else x

theorem or_pc (x y : Int) : Pc Tryz.prog 58 [.fz 1 [.int .i64 x, .int .i64 y]] (· = .int .i64 (orI x y)) := by
  refine pc_intro (ct_intro Tryz.func58 rfl Tryz.ntmps58 hB58 (by simp) fun h ρ w => go (N := 18) Tryz.ntmps58 300 ?_)
  simp only [go_sem, Nat.reduceAdd, Nat.reduceMul, Nat.reduceSub, Nat.reduceBEq, Nat.reduceLT, Nat.reduceLeDiff, reduceIte, reduceCtorEq, Int.reduceToNat, Int.reduceLE, Int.reduceLT, Int.reduceNe, Int.reduceMul, Int.reduceAdd, Int.reduceSub, Int.reduceDiv, Int.reduceMod, Int.reduceEq, Int.reduceGE, Int.reduceGT, Int.reduceNeg, Int.reduceBEq, Int.reduceBNe, Nat.reduceEqDiff]
  refine aenter (around (go (N := 18) Tryz.ntmps58 300 ?_))
  by_cases h1 : x = 0
  · have d1 : (x != 0) = false := by simpa using h1
    simp only [go_sem, Nat.reduceAdd, Nat.reduceMul, Nat.reduceSub, Nat.reduceBEq, Nat.reduceLT, Nat.reduceLeDiff, reduceIte, reduceCtorEq, Int.reduceToNat, Int.reduceLE, Int.reduceLT, Int.reduceNe, Int.reduceMul, Int.reduceAdd, Int.reduceSub, Int.reduceDiv, Int.reduceMod, Int.reduceEq, Int.reduceGE, Int.reduceGT, Int.reduceNeg, Int.reduceBEq, Int.reduceBNe, Nat.reduceEqDiff, d1]
    refine aagain (around (go (N := 18) Tryz.ntmps58 300 ?_))
    by_cases h2 : y = 0
    · have d2 : (y != 0) = false := by simpa using h2
      simp only [go_sem, Nat.reduceAdd, Nat.reduceMul, Nat.reduceSub, Nat.reduceBEq, Nat.reduceLT, Nat.reduceLeDiff, reduceIte, reduceCtorEq, Int.reduceToNat, Int.reduceLE, Int.reduceLT, Int.reduceNe, Int.reduceMul, Int.reduceAdd, Int.reduceSub, Int.reduceDiv, Int.reduceMod, Int.reduceEq, Int.reduceGE, Int.reduceGT, Int.reduceNeg, Int.reduceBEq, Int.reduceBNe, Nat.reduceEqDiff, d2]
      refine aagain (around (go (N := 18) Tryz.ntmps58 300 ?_))
      simp only [go_sem, Nat.reduceAdd, Nat.reduceMul, Nat.reduceSub, Nat.reduceBEq, Nat.reduceLT, Nat.reduceLeDiff, reduceIte, reduceCtorEq, Int.reduceToNat, Int.reduceLE, Int.reduceLT, Int.reduceNe, Int.reduceMul, Int.reduceAdd, Int.reduceSub, Int.reduceDiv, Int.reduceMod, Int.reduceEq, Int.reduceGE, Int.reduceGT, Int.reduceNeg, Int.reduceBEq, Int.reduceBNe, Nat.reduceEqDiff]
      exact aret [2] rfl ⟨by simp [resV, Av.get, orI, h1, h2], rfl⟩
    have d2 : (y != 0) = true := by simpa using h2
    simp only [go_sem, Nat.reduceAdd, Nat.reduceMul, Nat.reduceSub, Nat.reduceBEq, Nat.reduceLT, Nat.reduceLeDiff, reduceIte, reduceCtorEq, Int.reduceToNat, Int.reduceLE, Int.reduceLT, Int.reduceNe, Int.reduceMul, Int.reduceAdd, Int.reduceSub, Int.reduceDiv, Int.reduceMod, Int.reduceEq, Int.reduceGE, Int.reduceGT, Int.reduceNeg, Int.reduceBEq, Int.reduceBNe, Nat.reduceEqDiff, d2]
    exact aret [2] rfl ⟨by simp [resV, Av.get, orI, h1], rfl⟩
  have d1 : (x != 0) = true := by simpa using h1
  simp only [go_sem, Nat.reduceAdd, Nat.reduceMul, Nat.reduceSub, Nat.reduceBEq, Nat.reduceLT, Nat.reduceLeDiff, reduceIte, reduceCtorEq, Int.reduceToNat, Int.reduceLE, Int.reduceLT, Int.reduceNe, Int.reduceMul, Int.reduceAdd, Int.reduceSub, Int.reduceDiv, Int.reduceMod, Int.reduceEq, Int.reduceGE, Int.reduceGT, Int.reduceNeg, Int.reduceBEq, Int.reduceBNe, Nat.reduceEqDiff, d1]
  exact aret [2] rfl ⟨by simp [resV, Av.get, orI, h1], rfl⟩

def compareN (a b : List UInt8) : Int := orI (cmpI (pN a) (pN b)) (Lib.compareBytes (caps a) (caps b))

theorem compareN_pc (a b : List UInt8) (ha : a.length < 1000000) (hb : b.length < 1000000) (da : okD a) (db : okD b) : Pc Tryz.prog 25 [.str a, .str b] (· = .int .i64 (compareN a b)) := by
  refine pc_intro (ct_intro Tryz.func25 rfl Tryz.ntmps25 hB25 (by simp) fun h ρ w => go (N := 23) Tryz.ntmps25 300 ?_)
  simp only [go_sem, Nat.reduceAdd, Nat.reduceMul, Nat.reduceSub, Nat.reduceBEq, Nat.reduceLT, Nat.reduceLeDiff, reduceIte, reduceCtorEq, Int.reduceToNat, Int.reduceLE, Int.reduceLT, Int.reduceNe, Int.reduceMul, Int.reduceAdd, Int.reduceSub, Int.reduceDiv, Int.reduceMod, Int.reduceEq, Int.reduceGE, Int.reduceGT, Int.reduceNeg, Int.reduceBEq, Int.reduceBNe, Nat.reduceEqDiff]
  refine pcall1 (parse_pc a ha da) rfl (N := 23) Tryz.ntmps25 rfl (go (N := 23) Tryz.ntmps25 300 ?_)
  simp only [go_sem, Nat.reduceAdd, Nat.reduceMul, Nat.reduceSub, Nat.reduceBEq, Nat.reduceLT, Nat.reduceLeDiff, reduceIte, reduceCtorEq, Int.reduceToNat, Int.reduceLE, Int.reduceLT, Int.reduceNe, Int.reduceMul, Int.reduceAdd, Int.reduceSub, Int.reduceDiv, Int.reduceMod, Int.reduceEq, Int.reduceGE, Int.reduceGT, Int.reduceNeg, Int.reduceBEq, Int.reduceBNe, Nat.reduceEqDiff]
  refine pcall1 (parse_pc b hb db) rfl (N := 23) Tryz.ntmps25 rfl (go (N := 23) Tryz.ntmps25 300 ?_)
  simp only [go_sem, Nat.reduceAdd, Nat.reduceMul, Nat.reduceSub, Nat.reduceBEq, Nat.reduceLT, Nat.reduceLeDiff, reduceIte, reduceCtorEq, Int.reduceToNat, Int.reduceLE, Int.reduceLT, Int.reduceNe, Int.reduceMul, Int.reduceAdd, Int.reduceSub, Int.reduceDiv, Int.reduceMod, Int.reduceEq, Int.reduceGE, Int.reduceGT, Int.reduceNeg, Int.reduceBEq, Int.reduceBNe, Nat.reduceEqDiff]
  refine adraw [.int .i64 (cmpI (pN a) (pN b)), .int .i64 (Lib.compareBytes (caps a) (caps b)), .int .i64 (compareN a b)] mixed (by decide) (N := 23) Tryz.ntmps25 (by decide) 100 ?_
  simp only [go_sem, Nat.reduceAdd, Nat.reduceMul, Nat.reduceSub, Nat.reduceBEq, Nat.reduceLT, Nat.reduceLeDiff, reduceIte, reduceCtorEq, Int.reduceToNat, Int.reduceLE, Int.reduceLT, Int.reduceNe, Int.reduceMul, Int.reduceAdd, Int.reduceSub, Int.reduceDiv, Int.reduceMod, Int.reduceEq, Int.reduceGE, Int.reduceGT, Int.reduceNeg, Int.reduceBEq, Int.reduceBNe, Nat.reduceEqDiff]
  have ho := or_pc (cmpI (pN a) (pN b)) (Lib.compareBytes (caps a) (caps b))
  refine ⟨(cmp_int_pc _ _).at, rfl, rfl, (compare_str_pc _ _).at, rfl, rfl, ho.at, rfl, ?_⟩
  refine go (N := 23) Tryz.ntmps25 300 ?_
  simp only [go_sem, Nat.reduceAdd, Nat.reduceMul, Nat.reduceSub, Nat.reduceBEq, Nat.reduceLT, Nat.reduceLeDiff, reduceIte, reduceCtorEq, Int.reduceToNat, Int.reduceLE, Int.reduceLT, Int.reduceNe, Int.reduceMul, Int.reduceAdd, Int.reduceSub, Int.reduceDiv, Int.reduceMod, Int.reduceEq, Int.reduceGE, Int.reduceGT, Int.reduceNeg, Int.reduceBEq, Int.reduceBNe, Nat.reduceEqDiff]
  exact aret [4] rfl ⟨by simp [resV, Av.get], rfl⟩

def lowestL (n : Nat) : List UInt8 := Lib.repeatL [65] (n - 1) ++ [66]

theorem lowest_pc (n : Nat) (h0 : 1 ≤ n) (h1 : n ≤ 1000) : Pc Tryz.prog 91 [.int .i64 n] (· = .str (lowestL n)) := by
  have hr := repeat_pc [65] (n - 1) (by simp; omega) (by omega)
  rw [show ((n - 1 : Nat) : Int) = (n : Int) - 1 by omega] at hr
  refine pc_intro (ct_intro Tryz.func91 rfl Tryz.ntmps91 hB91 (by simp) fun h ρ w => go (N := 7) Tryz.ntmps91 300 ?_)
  simp only [go_sem, Nat.reduceAdd, Nat.reduceMul, Nat.reduceSub, Nat.reduceBEq, Nat.reduceLT, Nat.reduceLeDiff, reduceIte, reduceCtorEq, Int.reduceToNat, Int.reduceLE, Int.reduceLT, Int.reduceNe, Int.reduceMul, Int.reduceAdd, Int.reduceSub, Int.reduceDiv, Int.reduceMod, Int.reduceEq, Int.reduceGE, Int.reduceGT, Int.reduceNeg, Int.reduceBEq, Int.reduceBNe, Nat.reduceEqDiff]
  refine ⟨by omega, by omega, ?_⟩
  refine pcall1 (hr) rfl (N := 7) Tryz.ntmps91 rfl (go (N := 7) Tryz.ntmps91 300 ?_)
  simp only [go_sem, Nat.reduceAdd, Nat.reduceMul, Nat.reduceSub, Nat.reduceBEq, Nat.reduceLT, Nat.reduceLeDiff, reduceIte, reduceCtorEq, Int.reduceToNat, Int.reduceLE, Int.reduceLT, Int.reduceNe, Int.reduceMul, Int.reduceAdd, Int.reduceSub, Int.reduceDiv, Int.reduceMod, Int.reduceEq, Int.reduceGE, Int.reduceGT, Int.reduceNeg, Int.reduceBEq, Int.reduceBNe, Nat.reduceEqDiff]
  refine ⟨by rw [Lib.repeatL_length]; simp; omega, ?_⟩
  exact aret [2] rfl ⟨by simp [resV, Av.get, lowestL], rfl⟩

abbrev bys (l : List UInt8) : List AV := l.map fun b => .int .u8 b.toNat
theorem bys_get {l : List UInt8} {k : Nat} (h : k < l.length) : (bys l).getD k .any = .int .u8 (l.getD k 0).toNat := by simp [List.getD, h]
theorem bys_set (l : List UInt8) (k : Nat) (x : UInt8) : (bys l).set k (.int .u8 x.toNat) = bys (l.set k x) := by simp [bys, List.map_set]
theorem bys_len (l : List UInt8) : (bys l).length = l.length := by simp
theorem bys_text (l : List UInt8) : (bys l).all isByte = true ∧ (bys l).map Go.Av.byteOf = l := by
  refine ⟨by simp [List.all_eq_true, isByte], ?_⟩
  induction l with
  | nil => rfl
  | cons b l ih =>
    simp only [bys, List.map_cons, Go.Av.byteOf] at ih ⊢
    rw [ih]
    simp

/-- the row with its last letter that is no Z one letter on, A behind it; reversed -/
def bumpR : List UInt8 → Option (List UInt8)
  | [] => none
  | c :: r => if c = 90 then (bumpR r).map (65 :: ·) else some ((c + 1) :: r)
def fixR : List UInt8 → List UInt8
  | [] => []
  | c :: r => (if c = 65 then 66 else c) :: r
def aboveL (c : List UInt8) (n : Nat) : List UInt8 :=
  if c.length < n then c ++ lowestL (n - c.length) else
    match bumpR (c.take n).reverse with
    | none => []
    | some r => (fixR r).reverse

theorem bump_run (p : List UInt8) : ∀ j, bumpR (List.replicate j 90 ++ p) = (bumpR p).map (List.replicate j 65 ++ ·)
  | 0 => by cases h : bumpR p <;> simp [h]
  | j + 1 => by
    rw [List.replicate_succ, List.cons_append, bumpR, if_pos rfl, bump_run p j]
    cases bumpR p <;> simp [List.replicate_succ]
theorem take_z {c : List UInt8} {n j : Nat} (hj : j ≤ n) (hn : n ≤ c.length) (h : ∀ i, n - j ≤ i → i < n → c.getD i 0 = 90) : c.take n = c.take (n - j) ++ List.replicate j 90 := by
  refine List.ext_getElem? fun i => ?_
  by_cases h1 : i < n - j
  · rw [List.getElem?_append_left (by simp; omega), List.getElem?_take, List.getElem?_take, if_pos h1, if_pos (by omega)]
  · rw [List.getElem?_append_right (by simp; omega), List.getElem?_take, List.getElem?_replicate, List.length_take]
    by_cases h2 : i < n
    · have := h i (by omega) h2
      simp only [List.getD, List.getElem?_eq_getElem (show i < c.length by omega), Option.getD_some] at this
      rw [if_pos h2, if_pos (by omega), List.getElem?_eq_getElem (show i < c.length by omega), this]
    · rw [if_neg h2, if_neg (by omega)]
theorem take_k {c : List UInt8} {k : Nat} (hk : k < c.length) : c.take (k + 1) = c.take k ++ [c.getD k 0] := by
  rw [List.take_succ_eq_append_getElem hk]; simp [List.getD, hk]
theorem bump_none {c : List UInt8} {n : Nat} (hn : n ≤ c.length) (h : ∀ i, n - n ≤ i → i < n → c.getD i 0 = 90) : bumpR (c.take n).reverse = none := by
  rw [take_z (Nat.le_refl n) hn h]
  have := bump_run [] n
  simpa [bumpR] using this
theorem bump_some {c : List UInt8} {n j : Nat} (hj : j < n) (hn : n ≤ c.length) (h : ∀ i, n - j ≤ i → i < n → c.getD i 0 = 90) (hk : c.getD (n - 1 - j) 0 ≠ 90) :
    bumpR (c.take n).reverse = some (List.replicate j 65 ++ (c.getD (n - 1 - j) 0 + 1) :: (c.take (n - 1 - j)).reverse) := by
  rw [take_z (Nat.le_of_lt hj) hn h, List.reverse_append, List.reverse_replicate, show n - j = (n - 1 - j) + 1 by omega, take_k (by omega), List.reverse_append, List.reverse_singleton, List.singleton_append, bump_run, bumpR, if_neg hk]
  rfl
theorem fix_last {l : List UInt8} {n : Nat} (h0 : 1 ≤ n) (hl : l.length = n) : (fixR l.reverse).reverse = if l.getD (n - 1) 0 = 65 then l.set (n - 1) 66 else l := by
  obtain ⟨r, x, rfl⟩ : ∃ r x, l = r ++ [x] := ⟨l.dropLast, l.getLast (by intro h; simp [h] at hl; omega), (List.dropLast_concat_getLast _).symm⟩
  have hr : n - 1 = r.length := by simp at hl; omega
  rw [hr]
  simp only [List.reverse_append, List.reverse_singleton, List.singleton_append, fixR]
  by_cases hx : x = 65
  · subst hx; simp
  · simp [hx]

theorem above_pc (c : List UInt8) (n : Nat) (h0 : 1 ≤ n) (h1 : n ≤ 1000) (hc : c.length < 1000000) (hcap : ∀ x ∈ c, x.toNat ≤ 90) : Pc Tryz.prog 92 [.str c, .int .i64 n] (· = .str (aboveL c n)) := by
  by_cases hl : (c.length : Int) < n
  · have hr := lowest_pc (n - c.length) (by omega) (by omega)
    rw [show ((n - c.length : Nat) : Int) = (n : Int) - c.length by omega] at hr
    have hll : (lowestL (n - c.length)).length ≤ 1000 := by simp [lowestL, Lib.repeatL_length]; omega
    refine pc_intro (ct_intro Tryz.func92 rfl Tryz.ntmps92 hB92 (by simp) fun h ρ w => go (N := 58) Tryz.ntmps92 300 ?_)
    simp only [go_sem, Nat.reduceAdd, Nat.reduceMul, Nat.reduceSub, Nat.reduceBEq, Nat.reduceLT, Nat.reduceLeDiff, reduceIte, reduceCtorEq, Int.reduceToNat, Int.reduceLE, Int.reduceLT, Int.reduceNe, Int.reduceMul, Int.reduceAdd, Int.reduceSub, Int.reduceDiv, Int.reduceMod, Int.reduceEq, Int.reduceGE, Int.reduceGT, Int.reduceNeg, Int.reduceBEq, Int.reduceBNe, Nat.reduceEqDiff, hl]
    refine ⟨by omega, by omega, ?_⟩
    refine pcall1 (hr) rfl (N := 58) Tryz.ntmps92 rfl (go (N := 58) Tryz.ntmps92 300 ?_)
    simp only [go_sem, Nat.reduceAdd, Nat.reduceMul, Nat.reduceSub, Nat.reduceBEq, Nat.reduceLT, Nat.reduceLeDiff, reduceIte, reduceCtorEq, Int.reduceToNat, Int.reduceLE, Int.reduceLT, Int.reduceNe, Int.reduceMul, Int.reduceAdd, Int.reduceSub, Int.reduceDiv, Int.reduceMod, Int.reduceEq, Int.reduceGE, Int.reduceGT, Int.reduceNeg, Int.reduceBEq, Int.reduceBNe, Nat.reduceEqDiff]
    refine ⟨by omega, ?_⟩
    exact aret [4] rfl ⟨by rw [aboveL, if_pos (by omega)]; rfl, rfl⟩
  · have hl' : n ≤ c.length := by omega
    have hlt : (c.take n).length = n := by simp; omega
    refine pc_intro (ct_intro Tryz.func92 rfl Tryz.ntmps92 hB92 (by simp) fun h ρ w => go (N := 58) Tryz.ntmps92 300 ?_)
    simp only [go_sem, Nat.reduceAdd, Nat.reduceMul, Nat.reduceSub, Nat.reduceBEq, Nat.reduceLT, Nat.reduceLeDiff, reduceIte, reduceCtorEq, Int.reduceToNat, Int.reduceLE, Int.reduceLT, Int.reduceNe, Int.reduceMul, Int.reduceAdd, Int.reduceSub, Int.reduceDiv, Int.reduceMod, Int.reduceEq, Int.reduceGE, Int.reduceGT, Int.reduceNeg, Int.reduceBEq, Int.reduceBNe, Nat.reduceEqDiff, hl, hlt]
    repeat refine And.intro (by omega) ?_
    refine aloopX (ι := Nat) (κ := Nat) (fun j => n - j) (fun j => [(6, .int .i64 ((n : Int) - 1 - j)), (5, .sl 0 0 n n), (4, .str []), (1, .int .i64 n), (0, .str c)]) (fun j => [.arr 1 (bys (c.take (n - j) ++ List.replicate j 65))])
      (fun j => j ≤ n ∧ ∀ i, n - j ≤ i → i < n → c.getD i 0 = 90)
      (fun j => [(6, .int .i64 ((n : Int) - 1 - j)), (5, .sl 0 0 n n), (4, .str []), (1, .int .i64 n), (0, .str c)]) (fun j => [.arr 1 (bys (c.take (n - j) ++ List.replicate j 65))])
      (fun j => j ≤ n ∧ (∀ i, n - j ≤ i → i < n → c.getD i 0 = 90) ∧ (j = n ∨ c.getD (n - 1 - j) 0 ≠ 90)) 0 ⟨by omega, by omega⟩ ?_ ?_ ?_
    · have e0 : ((n : Int) - 1 - (0 : Nat)) = n - 1 := by omega
      simp only [e0, Nat.sub_zero, List.replicate_zero, List.append_nil]
      refine Shift.weak ?_
      simp only [wk, go_sem, Nat.reduceAdd, Nat.reduceMul, Nat.reduceSub, Nat.reduceBEq, Nat.reduceLT, Nat.reduceLeDiff, reduceIte, reduceCtorEq, Int.reduceToNat, Int.reduceLE, Int.reduceLT, Int.reduceNe, Int.reduceMul, Int.reduceAdd, Int.reduceSub, Int.reduceDiv, Int.reduceMod, Int.reduceEq, Int.reduceGE, Int.reduceGT, Int.reduceNeg, Int.reduceBEq, Int.reduceBNe, Nat.reduceEqDiff]
    · rintro j ⟨g1, g2, g3⟩
      by_cases hj : j = n
      · subst hj
        have d1 : decide ((j : Int) - 1 - j < 0) = true := by simp; omega
        refine go (N := 58) Tryz.ntmps92 300 ?_
        simp only [go_sem, Nat.reduceAdd, Nat.reduceMul, Nat.reduceSub, Nat.reduceBEq, Nat.reduceLT, Nat.reduceLeDiff, reduceIte, reduceCtorEq, Int.reduceToNat, Int.reduceLE, Int.reduceLT, Int.reduceNe, Int.reduceMul, Int.reduceAdd, Int.reduceSub, Int.reduceDiv, Int.reduceMod, Int.reduceEq, Int.reduceGE, Int.reduceGT, Int.reduceNeg, Int.reduceBEq, Int.reduceBNe, Nat.reduceEqDiff, d1]
        exact aret [4] rfl ⟨by rw [aboveL, if_neg (by omega), bump_none hl' g2]; rfl, rfl⟩
      have g3' := g3.resolve_left hj
      have hk : ((n : Int) - 1 - j).toNat = n - 1 - j := by omega
      have hlen : (c.take (n - j) ++ List.replicate j 65).length = n := by simp; omega
      have hg0 : (c.take (n - j) ++ List.replicate j 65).getD (n - 1 - j) 0 = c.getD (n - 1 - j) 0 := by
        simp only [List.getD, List.getElem?_append_left (show n - 1 - j < (c.take (n - j)).length by simp; omega), List.getElem?_take, if_pos (show n - 1 - j < n - j by omega)]
      have hg : (bys (c.take (n - j) ++ List.replicate j 65)).getD (n - 1 - j) .any = .int .u8 (c.getD (n - 1 - j) 0).toNat := by
        rw [bys_get (by omega), hg0]
      have hx : (c.getD (n - 1 - j) 0).toNat ≤ 90 := hcap _ (by simp only [List.getD, List.getElem?_eq_getElem (show n - 1 - j < c.length by omega), Option.getD_some]; exact List.getElem_mem _)
      have d1 : decide ((n : Int) - 1 - j < 0) = false := by simp; omega
      have hu : ((c.getD (n - 1 - j) 0).toNat : Int) + 1 = ((c.getD (n - 1 - j) 0 + 1).toNat : Int) := by
        have : ∀ x : UInt8, x.toNat ≤ 90 → (x.toNat : Int) + 1 = ((x + 1).toNat : Int) := fun x h => by
          have e : (x + 1).toNat = (x.toNat + 1) % 256 := by rw [UInt8.toNat_add]; rfl
          omega
        exact this _ hx
      have hsetl : (bys (c.take (n - j) ++ List.replicate j 65)).set (n - 1 - j) (.int .u8 (c.getD (n - 1 - j) 0 + 1).toNat) = bys (c.take (n - 1 - j) ++ (c.getD (n - 1 - j) 0 + 1) :: List.replicate j 65) := by
        rw [bys_set, show n - j = (n - 1 - j) + 1 by omega, take_k (by omega), List.append_assoc, List.set_append_right _ _ (by simp; omega)]
        simp [show n - 1 - j - min (n - 1 - j) c.length = 0 by omega]
      have hbs := bump_some (by omega) hl' g2 g3'
      have hab : aboveL c n = (fixR (c.take (n - 1 - j) ++ (c.getD (n - 1 - j) 0 + 1) :: List.replicate j 65).reverse).reverse := by
        rw [aboveL, if_neg (by omega), hbs]
        simp
      have hL : (c.take (n - 1 - j) ++ (c.getD (n - 1 - j) 0 + 1) :: List.replicate j 65).length = n := by simp; omega
      rw [fix_last h0 hL] at hab
      generalize c.take (n - 1 - j) ++ (c.getD (n - 1 - j) 0 + 1) :: List.replicate j 65 = L at hsetl hab hL
      have hk1 : ((n : Int) - 1).toNat = n - 1 := by omega
      have hgL := bys_get (l := L) (k := n - 1) (by omega)
      by_cases h65 : L.getD (n - 1) 0 = 65
      · have d2 : (((L.getD (n - 1) 0).toNat : Int) == 65) = true := by rw [h65]; rfl
        rw [if_pos h65] at hab
        have hset2 : (bys L).set (n - 1) (.int .u8 66) = bys (L.set (n - 1) 66) := bys_set L (n - 1) 66
        have hL2 : (L.set (n - 1) 66).length = n := by simp [hL]
        generalize L.set (n - 1) 66 = L2 at hset2 hab hL2
        have ht : List.take n (bys L2) = bys L2 := List.take_of_length_le (by simp [hL2])
        refine go (N := 58) Tryz.ntmps92 300 ?_
        simp only [go_sem, Nat.reduceAdd, Nat.reduceMul, Nat.reduceSub, Nat.reduceBEq, Nat.reduceLT, Nat.reduceLeDiff, reduceIte, reduceCtorEq, Int.reduceToNat, Int.reduceLE, Int.reduceLT, Int.reduceNe, Int.reduceMul, Int.reduceAdd, Int.reduceSub, Int.reduceDiv, Int.reduceMod, Int.reduceEq, Int.reduceGE, Int.reduceGT, Int.reduceNeg, Int.reduceBEq, Int.reduceBNe, Nat.reduceEqDiff, d1, bys_len, hlen, hk, hg, hu, hsetl, hk1, hgL, d2, hL, hset2, hL2, ht, (bys_text L2).1, (bys_text L2).2]
        repeat refine And.intro (by omega) ?_
        exact aret [4] rfl ⟨by rw [hab]; rfl, rfl⟩
      · have d2 : (((L.getD (n - 1) 0).toNat : Int) == 65) = false := by
          simp only [beq_eq_false_iff_ne, ne_eq]
          intro h
          exact h65 (UInt8.toNat_inj.1 (show (L.getD (n - 1) 0).toNat = 65 by omega))
        rw [if_neg h65] at hab
        refine go (N := 58) Tryz.ntmps92 300 ?_
        have ht : List.take n (bys L) = bys L := List.take_of_length_le (by simp [hL])
        simp only [go_sem, Nat.reduceAdd, Nat.reduceMul, Nat.reduceSub, Nat.reduceBEq, Nat.reduceLT, Nat.reduceLeDiff, reduceIte, reduceCtorEq, Int.reduceToNat, Int.reduceLE, Int.reduceLT, Int.reduceNe, Int.reduceMul, Int.reduceAdd, Int.reduceSub, Int.reduceDiv, Int.reduceMod, Int.reduceEq, Int.reduceGE, Int.reduceGT, Int.reduceNeg, Int.reduceBEq, Int.reduceBNe, Nat.reduceEqDiff, d1, bys_len, hlen, hk, hg, hu, hsetl, hk1, hgL, d2, hL, ht, (bys_text L).1, (bys_text L).2]
        repeat refine And.intro (by omega) ?_
        exact aret [4] rfl ⟨by rw [hab]; rfl, rfl⟩
    · rintro j ⟨g1, g2⟩ J Q hJ hQ
      have hlen : (c.take (n - j) ++ List.replicate j 65).length = n := by simp; omega
      refine go (N := 58) Tryz.ntmps92 300 ?_
      by_cases hj : j = n
      · have d1 : decide ((n : Int) - 1 - j ≥ 0) = false := by simp; omega
        simp only [go_sem, Nat.reduceAdd, Nat.reduceMul, Nat.reduceSub, Nat.reduceBEq, Nat.reduceLT, Nat.reduceLeDiff, reduceIte, reduceCtorEq, Int.reduceToNat, Int.reduceLE, Int.reduceLT, Int.reduceNe, Int.reduceMul, Int.reduceAdd, Int.reduceSub, Int.reduceDiv, Int.reduceMod, Int.reduceEq, Int.reduceGE, Int.reduceGT, Int.reduceNeg, Int.reduceBEq, Int.reduceBNe, Nat.reduceEqDiff, d1, bys_len, hlen]
        refine ainv (hQ j ⟨g1, g2, .inl hj⟩) (Shift.weak ?_)
        simp only [wk, go_sem, Nat.reduceAdd, Nat.reduceMul, Nat.reduceSub, Nat.reduceBEq, Nat.reduceLT, Nat.reduceLeDiff, reduceIte, reduceCtorEq, Int.reduceToNat, Int.reduceLE, Int.reduceLT, Int.reduceNe, Int.reduceMul, Int.reduceAdd, Int.reduceSub, Int.reduceDiv, Int.reduceMod, Int.reduceEq, Int.reduceGE, Int.reduceGT, Int.reduceNeg, Int.reduceBEq, Int.reduceBNe, Nat.reduceEqDiff]
      · have d1 : decide ((n : Int) - 1 - j ≥ 0) = true := by simp; omega
        have hk : ((n : Int) - 1 - j).toNat = n - 1 - j := by omega
        have hg0 : (c.take (n - j) ++ List.replicate j 65).getD (n - 1 - j) 0 = c.getD (n - 1 - j) 0 := by
          simp only [List.getD, List.getElem?_append_left (show n - 1 - j < (c.take (n - j)).length by simp; omega), List.getElem?_take, if_pos (show n - 1 - j < n - j by omega)]
        have hg : (bys (c.take (n - j) ++ List.replicate j 65)).getD (n - 1 - j) .any = .int .u8 (c.getD (n - 1 - j) 0).toNat := by
          rw [bys_get (by omega), hg0]
        by_cases h90 : c.getD (n - 1 - j) 0 = 90
        · have d2 : (((c.getD (n - 1 - j) 0).toNat : Int) == 90) = true := by rw [h90]; rfl
          have hset : (bys (c.take (n - j) ++ List.replicate j 65)).set (n - 1 - j) (.int .u8 65) = bys (c.take (n - (j + 1)) ++ List.replicate (j + 1) 65) := by
            have := bys_set (c.take (n - j) ++ List.replicate j 65) (n - 1 - j) 65
            refine this.trans (congrArg bys ?_)
            rw [show n - j = (n - 1 - j) + 1 by omega, take_k (by omega), List.append_assoc, List.set_append_right _ _ (by simp; omega), show n - (j + 1) = n - 1 - j by omega]
            simp [show n - 1 - j - min (n - 1 - j) c.length = 0 by omega, List.replicate_succ]
          simp only [go_sem, Nat.reduceAdd, Nat.reduceMul, Nat.reduceSub, Nat.reduceBEq, Nat.reduceLT, Nat.reduceLeDiff, reduceIte, reduceCtorEq, Int.reduceToNat, Int.reduceLE, Int.reduceLT, Int.reduceNe, Int.reduceMul, Int.reduceAdd, Int.reduceSub, Int.reduceDiv, Int.reduceMod, Int.reduceEq, Int.reduceGE, Int.reduceGT, Int.reduceNeg, Int.reduceBEq, Int.reduceBNe, Nat.reduceEqDiff, d1, d2, bys_len, hlen, hk, hg, hset]
          rw [show (n : Int) - 1 - j - 1 = (n : Int) - 1 - ((j + 1 : Nat) : Int) by omega]
          repeat refine And.intro (by omega) ?_
          refine ainv (hJ (j + 1) ⟨by omega, fun i h1 h2 => ?_⟩ (by omega)) (Shift.weak ?_)
          · by_cases hi : i = n - 1 - j
            · rw [hi]; exact h90
            · exact g2 i (by omega) h2
          · simp only [wk, go_sem, Nat.reduceAdd, Nat.reduceMul, Nat.reduceSub, Nat.reduceBEq, Nat.reduceLT, Nat.reduceLeDiff, reduceIte, reduceCtorEq, Int.reduceToNat, Int.reduceLE, Int.reduceLT, Int.reduceNe, Int.reduceMul, Int.reduceAdd, Int.reduceSub, Int.reduceDiv, Int.reduceMod, Int.reduceEq, Int.reduceGE, Int.reduceGT, Int.reduceNeg, Int.reduceBEq, Int.reduceBNe, Nat.reduceEqDiff]
        · have d2 : (((c.getD (n - 1 - j) 0).toNat : Int) == 90) = false := by
            simp only [beq_eq_false_iff_ne, ne_eq]
            intro h
            exact h90 (UInt8.toNat_inj.1 (show (c.getD (n - 1 - j) 0).toNat = 90 by omega))
          simp only [go_sem, Nat.reduceAdd, Nat.reduceMul, Nat.reduceSub, Nat.reduceBEq, Nat.reduceLT, Nat.reduceLeDiff, reduceIte, reduceCtorEq, Int.reduceToNat, Int.reduceLE, Int.reduceLT, Int.reduceNe, Int.reduceMul, Int.reduceAdd, Int.reduceSub, Int.reduceDiv, Int.reduceMod, Int.reduceEq, Int.reduceGE, Int.reduceGT, Int.reduceNeg, Int.reduceBEq, Int.reduceBNe, Nat.reduceEqDiff, d1, d2, bys_len, hlen, hk, hg]
          repeat refine And.intro (by omega) ?_
          refine ainv (hQ j ⟨g1, g2, .inr h90⟩) (Shift.weak ?_)
          simp only [wk, go_sem, Nat.reduceAdd, Nat.reduceMul, Nat.reduceSub, Nat.reduceBEq, Nat.reduceLT, Nat.reduceLeDiff, reduceIte, reduceCtorEq, Int.reduceToNat, Int.reduceLE, Int.reduceLT, Int.reduceNe, Int.reduceMul, Int.reduceAdd, Int.reduceSub, Int.reduceDiv, Int.reduceMod, Int.reduceEq, Int.reduceGE, Int.reduceGT, Int.reduceNeg, Int.reduceBEq, Int.reduceBNe, Nat.reduceEqDiff]
end Go.Proofs.YtpjbbpilgfihbaaGreatDoor
/- Numbers of scenes: the next one, the one between two others. Own work of this seat. -/
set_option maxRecDepth 100000
set_option linter.unusedSimpArgs false
set_option linter.unusedVariables false
namespace Go.Proofs.YtpjbbpilgfihbaaGreatDoor
open Go Go.Av Go.RowKit
attribute [local go_sem ↓] br_true br_false dbr_true dbr_false dbri_true dbri_false dbrg_true dbrg_false
attribute [local go_sem] run cont br dbr dx dxc dgrd dyld dres dcall calm fieldPlace? allHas step1 opN grdN resN condN exitN stopN exitIt dOk xop xbin xint xarith xstr xbool xpick xnot xneg xextract xpart xpartOk xindex xfieldF fieldD xnew xbox xalloc xfieldAddr xptrAddIf xindexAddr xloadC xload putCells reElem xstoreB xstore xconv xtext xlen xlen2 xcall xfill xbuild cut rep xbuildSlice xbuildSliceD isRow elemD isU8 ev evs evp Go.Av.put Go.Av.get ofConst yldD yldV notBool_undef args0 cellsOf cond_true cond_false decide_true decide_false decide_eq_true_eq decide_eq_false_iff_not List.getElem?_cons_zero List.getElem?_cons_succ List.getElem?_nil List.getD_cons_zero List.getD_cons_succ List.getD_nil List.set_cons_zero List.set_cons_succ List.length_cons List.length_nil List.cons_append List.nil_append List.append_nil List.all_cons List.all_nil List.map_cons List.map_nil List.take_succ_cons List.take_zero List.drop_succ_cons List.drop_zero Bool.and_true Bool.true_and Bool.and_self Bool.and_false Bool.false_and one Go.Av.frozen beq_self_eq_true true_and and_true forall_const false_implies implies_true and_self Option.map_some Option.map_none Nat.zero_add Nat.add_zero Nat.zero_mul Nat.mul_one Nat.one_mul Int.toNat_zero ne_eq not_false_eq_true not_true_eq_false Bool.true_eq_false Bool.false_eq_true List.toList_toArray inr Go.Av.byteOf isByte decide_eq_decide Bool.not_true Bool.not_false Bool.not_eq_true' Bool.or_true Bool.true_or Bool.or_false Bool.false_or ge_iff_le gt_iff_lt and_assoc Bool.decide_eq_true beq_iff_eq beq_eq_false_iff_ne bne_iff_ne bne_self_eq_false if_true if_false Bool.and_eq_true Bool.or_eq_true Bool.and_eq_false_imp Bool.or_eq_false_iff Bool.not_eq_false' has Option.isSome_some Option.isSome_none Int.toNat_natCast Int.cast_ofNat_Int List.length_append xapp2 xapp xappS xappD xappB notInt srcOf srcB byteAV splice' xcut xcutS xcutF xcutB xcutN xcut0 cutL loOf hiOf evo xmake zelem xmax xcopy2 xcopyS xcopyB xnil xcut3 ixOf xclear2 xclearB List.getElem?_toArray xbin2 xnileq xempty xmkmap xmput xmputB xmputF isKey keyEq mfind xbin3 xeqs xeqop eqFs bothB leafEq xlook xlookB xlookF xbytes beq_c_n beq_n_c bne_c_n bne_n_c one_nil dxi dxic dbri rix dck reader blind opOk refOk Go.Op.operands Go.Call.operands List.contains_cons List.contains_nil dxg dxgc dbrg pck putD List.lookup_cons List.lookup_nil ts2 tb2 zl2 za2 Tryz.underlying2 ts3 tb3 zl3 za3 Tryz.underlying3 ts4 tb4 zl4 za4 Tryz.underlying4 ts5 tb5 zl5 za5 Tryz.underlying5 ts6 tb6 zl6 za6 Tryz.underlying6 ts7 tb7 za7 Tryz.underlying7 ts8 tb8 za8 Tryz.underlying8 ts9 tb9 zl9 za9 Tryz.underlying9 ts10 tb10 zl10 za10 Tryz.underlying10 ts11 tb11 zl11 za11 Tryz.underlying11 ts12 tb12 zl12 za12 Tryz.underlying12 ts13 tb13 za13 Tryz.underlying13 ts14 tb14 za14 Tryz.underlying14 ts18 tb18 za18 Tryz.underlying18 ts19 tb19 za19 Tryz.underlying19 ts21 tb21 zl21 za21 Tryz.underlying21 ts22 tb22 zl22 za22 Tryz.underlying22 ts24 tb24 za24 Tryz.underlying24 ts25 tb25 za25 Tryz.underlying25 ts27 tb27 zl27 za27 Tryz.underlying27 ts35 tb35 zl35 za35 Tryz.underlying35 ts36 tb36 za36 Tryz.underlying36 ts37 tb37 za37 Tryz.underlying37 ts39 tb39 zl39 za39 Tryz.underlying39 ts41 tb41 za41 Tryz.underlying41 ts42 tb42 za42 Tryz.underlying42 ts63 tb63 zl63 za63 Tryz.underlying63 ts64 tb64 zl64 za64 Tryz.underlying64 ts65 tb65 za65 Tryz.underlying65 ts66 tb66 za66 Tryz.underlying66 ts67 tb67 zl67 za67 Tryz.underlying67 ts69 tb69 za69 Tryz.underlying69 ts70 tb70 za70 Tryz.underlying70 ts73 tb73 za73 Tryz.underlying73 ts74 tb74 za74 Tryz.underlying74 ts75 tb75 zl75 za75 Tryz.underlying75 ts82 tb82 zl82 za82 Tryz.underlying82 ts96 tb96 za96 Tryz.underlying96 ts97 tb97 za97 Tryz.underlying97 ts103 tb103 za103 Tryz.underlying103 ts104 tb104 za104 Tryz.underlying104 ts109 tb109 zl109 za109 Tryz.underlying109 ts116 tb116 zl116 za116 Tryz.underlying116 ts117 tb117 za117 Tryz.underlying117 ts118 tb118 za118 Tryz.underlying118 ts120 tb120 zl120 za120 Tryz.underlying120 ts124 tb124 zl124 za124 Tryz.underlying124 ts126 tb126 za126 Tryz.underlying126 ts128 tb128 zl128 za128 Tryz.underlying128 ts130 tb130 za130 Tryz.underlying130 ts131 tb131 za131 Tryz.underlying131 ts153 tb153 zl153 za153 Tryz.underlying153 ts167 tb167 zl167 za167 Tryz.underlying167 ts171 tb171 zl171 za171 Tryz.underlying171 ts177 tb177 zl177 za177 Tryz.underlying177 ts183 tb183 zl183 za183 Tryz.underlying183 ts189 tb189 zl189 za189 Tryz.underlying189 ts191 tb191 zl191 za191 Tryz.underlying191 ts195 tb195 za195 Tryz.underlying195 ts196 tb196 za196 Tryz.underlying196 ts198 tb198 zl198 za198 Tryz.underlying198 ts203 tb203 Tryz.underlying203 ts209 tb209 za209 Tryz.underlying209 ts210 tb210 za210 Tryz.underlying210 ts211 tb211 Tryz.underlying211 ts216 tb216 za216 Tryz.underlying216 ts217 tb217 za217 Tryz.underlying217 ts220 tb220 Tryz.underlying220 ts225 tb225 Tryz.underlying225 ts226 tb226 Tryz.underlying226 ts227 tb227 za227 Tryz.underlying227 ts228 tb228 za228 Tryz.underlying228 ts232 tb232 zl232 za232 Tryz.underlying232 ts233 tb233 zl233 za233 Tryz.underlying233 ts235 tb235 zl235 za235 Tryz.underlying235 ts236 tb236 zl236 za236 Tryz.underlying236 ts237 tb237 za237 Tryz.underlying237 ts238 tb238 za238 Tryz.underlying238

theorem itoa_pch {S : Std} (hS : LibOk S) (n : Int) (h0 : -9223372036854775808 ≤ n) (h1 : n ≤ 9223372036854775807) : PcH Tryz.prog S 93 [.int .i64 n] (· = .str (Lib.itoa n)) :=
  pch_lib [_] (.string ⟨(Lib.itoa n).toArray⟩) hB93 (one_int .i64 n) (fun h => .str _) fun w H => by
    obtain ⟨t, z, hp⟩ := hS.pow10
    refine (Any.strconv_Itoa Tryz.laysM171 n h0 h1 w ?_).mono fun e w' ⟨e1, k, os, e2⟩ => ⟨e1, e2 ▸ same_below (Lib.below_grow _ _ (Nat.le_refl _) _ _)⟩
    show w.var? _ _ = _
    have hg : Tryz.prog.globalNamed "internal/strconv.uint64pow10" = some 5 := by kernel_rfl
    simp only [World.var?, hg, Option.bind_some, H _ _ hp]

/-- at most three digits -/
def dig3 (d : Int) : List UInt8 :=
  if d.toNat < 10 then [UInt8.ofNat (48 + d.toNat)] else if d.toNat < 100 then [UInt8.ofNat (48 + d.toNat / 10), UInt8.ofNat (48 + d.toNat % 10)]
  else [UInt8.ofNat (48 + d.toNat / 100), UInt8.ofNat (48 + d.toNat / 10 % 10), UInt8.ofNat (48 + d.toNat % 10)]
theorem itoa_dig3 {d : Int} (h0 : 0 ≤ d) (h1 : d ≤ 999) : Lib.itoa d = dig3 d := by
  unfold Lib.itoa dig3
  rw [if_neg (by omega)]
  generalize hu : d.toNat = u
  have hu1 : u ≤ 999 := by omega
  by_cases h10 : u < 10
  · rw [if_pos h10, Lib.decDigits_one h10]
  · rw [if_neg h10]
    by_cases h100 : u < 100
    · rw [if_pos h100, Lib.decDigits_two h10 h100]
    · rw [if_neg h100, Lib.decDigits, dif_neg h10, Lib.decDigits_two (by omega) (by omega)]
      simp [Nat.div_div_eq_div_mul]
theorem dig3_len (d : Int) : 1 ≤ (dig3 d).length ∧ (dig3 d).length ≤ 3 := by
  unfold dig3
  split
  · simp
  · split <;> simp
theorem digB_of {n : Nat} (h : n < 10) : digB (UInt8.ofNat (48 + n)) = true := by
  have : (UInt8.ofNat (48 + n)).toNat = 48 + n := by simp; omega
  simp only [digB, digI, this]; simp; omega
theorem dig3_all {d : Int} (h0 : 0 ≤ d) (h1 : d ≤ 999) : (dig3 d).all digB = true := by
  unfold dig3
  split
  · simp only [List.all_cons, List.all_nil, digB_of (n := d.toNat) (by omega), Bool.and_true]
  · split
    · simp only [List.all_cons, List.all_nil, digB_of (n := d.toNat / 10) (by omega), digB_of (n := d.toNat % 10) (by omega), Bool.and_true]
    · simp only [List.all_cons, List.all_nil, digB_of (n := d.toNat / 100) (by omega), digB_of (n := d.toNat / 10 % 10) (by omega), digB_of (n := d.toNat % 10) (by omega), Bool.and_true]

def nextX (a : List UInt8) (n : Nat) : Int × List UInt8 :=
  if a = [] then (if n = 0 then (1, []) else (0, lowestL n))
  else if n = 0 then (pN a + 1, [])
  else if aboveL (caps a) n = [] then (pN a + 1, lowestL n) else (pN a, aboveL (caps a) n)
def nextL (a : List UInt8) (n : Nat) : List UInt8 := if (nextX a n).1 > 999 then [] else dig3 (nextX a n).1 ++ (nextX a n).2

def okA (a : List UInt8) : Prop := a = [] ∨ (okD a ∧ a.length < 1000 ∧ (caps a).all capB = true ∧ 0 ≤ pN a ∧ pN a < 1000000)

theorem cap_le {l : List UInt8} (h : l.all capB = true) : ∀ x ∈ l, x.toNat ≤ 90 := fun x hx => by
  have := List.all_eq_true.1 h x hx
  simp only [capB, capI, Bool.and_eq_true, decide_eq_true_eq] at this
  omega
theorem lowest_len (n : Nat) : (lowestL n).length ≤ n + 1 := by simp [lowestL, Lib.repeatL_length]
theorem bump_len : ∀ (l r : List UInt8), bumpR l = some r → r.length = l.length
  | [], r, h => by simp [bumpR] at h
  | c :: l, r, h => by
    unfold bumpR at h
    split at h
    · cases hq : bumpR l with
      | none => simp [hq] at h
      | some r' => simp [hq] at h; subst h; simp [bump_len l r' hq]
    · simp at h; subst h; simp
theorem fix_len (l : List UInt8) : (fixR l).length = l.length := by cases l <;> rfl
theorem above_len (c : List UInt8) (n : Nat) : (aboveL c n).length ≤ c.length + n + 1 := by
  unfold aboveL
  split
  · have := lowest_len (n - c.length); simp; omega
  · split
    · simp
    · rename_i r hr
      have := bump_len _ _ hr
      simp [fix_len, this]; omega
theorem nextX_small {a : List UInt8} {n : Nat} (hn : n ≤ 100) (ha : okA a) : 0 ≤ (nextX a n).1 ∧ (nextX a n).1 ≤ 1000001 ∧ (nextX a n).2.length ≤ 100000 := by
  have hl := lowest_len n
  by_cases h0 : a = []
  · unfold nextX
    rw [if_pos h0]
    split <;> simp <;> omega
  · obtain ⟨ho, hal, hc, h1, h2⟩ := ha.resolve_left h0
    have hcl : (caps a).length ≤ a.length := by unfold caps; exact (List.dropWhile_suffix _).length_le
    have := above_len (caps a) n
    unfold nextX
    rw [if_neg h0]
    split
    · simp; omega
    · split <;> simp <;> omega
theorem next_pch {S : Std} (hS : LibOk S) (a : List UInt8) (n : Nat) (hn : n ≤ 100) (ha : okA a) : PcH Tryz.prog S 61 [.str a, .int .i64 n] (· = .str (nextL a n)) := by
  refine pch_intro (cth_intro Tryz.func61 rfl Tryz.ntmps61 hB61 (by simp) fun h ρ w hg => go (N := 56) Tryz.ntmps61 15 ?_)
  simp only [go_sem, Nat.reduceAdd, Nat.reduceMul, Nat.reduceSub, Nat.reduceBEq, Nat.reduceLT, Nat.reduceLeDiff, reduceIte, reduceCtorEq, Int.reduceToNat, Int.reduceLE, Int.reduceLT, Int.reduceNe, Int.reduceMul, Int.reduceAdd, Int.reduceSub, Int.reduceDiv, Int.reduceMod, Int.reduceEq, Int.reduceGE, Int.reduceGT, Int.reduceNeg, Int.reduceBEq, Int.reduceBNe, Nat.reduceEqDiff]
  refine amid (κ := Unit) (fun _ => [(5, .ptr 0 1 0 0), (0, .str a), (1, .int .i64 n)]) (fun _ => [.arr 2 [.agg [.int .i64 (nextX a n).1, .str (nextX a n).2]]]) (fun _ => True) ?_ ?_
  · rintro - -
    have hb : 0 ≤ (nextX a n).1 ∧ (nextX a n).1 ≤ 1000001 ∧ (nextX a n).2.length ≤ 100000 := nextX_small hn ha
    have hi := dig3_len (nextX a n).1
    by_cases h9 : (nextX a n).1 > 999
    · have d9 : decide ((nextX a n).1 > 999) = true := by simpa using h9
      refine go (N := 56) Tryz.ntmps61 300 ?_
      simp only [go_sem, Nat.reduceAdd, Nat.reduceMul, Nat.reduceSub, Nat.reduceBEq, Nat.reduceLT, Nat.reduceLeDiff, reduceIte, reduceCtorEq, Int.reduceToNat, Int.reduceLE, Int.reduceLT, Int.reduceNe, Int.reduceMul, Int.reduceAdd, Int.reduceSub, Int.reduceDiv, Int.reduceMod, Int.reduceEq, Int.reduceGE, Int.reduceGT, Int.reduceNeg, Int.reduceBEq, Int.reduceBNe, Nat.reduceEqDiff, d9]
      exact aret [4] rfl ⟨by rw [nextL, if_pos h9]; rfl, rfl⟩
    have d9 : decide ((nextX a n).1 > 999) = false := by simpa using h9
    refine go (N := 56) Tryz.ntmps61 300 ?_
    simp only [go_sem, Nat.reduceAdd, Nat.reduceMul, Nat.reduceSub, Nat.reduceBEq, Nat.reduceLT, Nat.reduceLeDiff, reduceIte, reduceCtorEq, Int.reduceToNat, Int.reduceLE, Int.reduceLT, Int.reduceNe, Int.reduceMul, Int.reduceAdd, Int.reduceSub, Int.reduceDiv, Int.reduceMod, Int.reduceEq, Int.reduceGE, Int.reduceGT, Int.reduceNeg, Int.reduceBEq, Int.reduceBNe, Nat.reduceEqDiff, d9]
    have hit := itoa_pch hS (nextX a n).1 (by omega) (by omega)
    rw [itoa_dig3 hb.1 (by omega)] at hit
    refine adraw [.str (dig3 (nextX a n).1)] mixed (by decide) (N := 56) Tryz.ntmps61 (by decide) 100 ?_
    simp only [go_sem, Nat.reduceAdd, Nat.reduceMul, Nat.reduceSub, Nat.reduceBEq, Nat.reduceLT, Nat.reduceLeDiff, reduceIte, reduceCtorEq, Int.reduceToNat, Int.reduceLE, Int.reduceLT, Int.reduceNe, Int.reduceMul, Int.reduceAdd, Int.reduceSub, Int.reduceDiv, Int.reduceMod, Int.reduceEq, Int.reduceGE, Int.reduceGT, Int.reduceNeg, Int.reduceBEq, Int.reduceBNe, Nat.reduceEqDiff]
    refine ⟨hit.at hg, rfl, by omega, ?_⟩
    refine go (N := 56) Tryz.ntmps61 300 ?_
    simp only [go_sem, Nat.reduceAdd, Nat.reduceMul, Nat.reduceSub, Nat.reduceBEq, Nat.reduceLT, Nat.reduceLeDiff, reduceIte, reduceCtorEq, Int.reduceToNat, Int.reduceLE, Int.reduceLT, Int.reduceNe, Int.reduceMul, Int.reduceAdd, Int.reduceSub, Int.reduceDiv, Int.reduceMod, Int.reduceEq, Int.reduceGE, Int.reduceGT, Int.reduceNeg, Int.reduceBEq, Int.reduceBNe, Nat.reduceEqDiff]
    exact aret [4] rfl ⟨by rw [nextL, if_neg h9]; rfl, rfl⟩
  · intro Q hQ
    by_cases ha0 : a = []
    · subst ha0
      by_cases hn0 : n = 0
      · subst hn0
        refine go (N := 56) Tryz.ntmps61 300 ?_
        simp only [go_sem, Nat.reduceAdd, Nat.reduceMul, Nat.reduceSub, Nat.reduceBEq, Nat.reduceLT, Nat.reduceLeDiff, reduceIte, reduceCtorEq, Int.reduceToNat, Int.reduceLE, Int.reduceLT, Int.reduceNe, Int.reduceMul, Int.reduceAdd, Int.reduceSub, Int.reduceDiv, Int.reduceMod, Int.reduceEq, Int.reduceGE, Int.reduceGT, Int.reduceNeg, Int.reduceBEq, Int.reduceBNe, Nat.reduceEqDiff]
        refine ainv (hQ () trivial) (Shift.weak ?_)
        simp only [wk, go_sem, Nat.reduceAdd, Nat.reduceMul, Nat.reduceSub, Nat.reduceBEq, Nat.reduceLT, Nat.reduceLeDiff, reduceIte, reduceCtorEq, Int.reduceToNat, Int.reduceLE, Int.reduceLT, Int.reduceNe, Int.reduceMul, Int.reduceAdd, Int.reduceSub, Int.reduceDiv, Int.reduceMod, Int.reduceEq, Int.reduceGE, Int.reduceGT, Int.reduceNeg, Int.reduceBEq, Int.reduceBNe, Nat.reduceEqDiff]
      · have d2 : ((n : Int) == 0) = false := by simp; omega
        refine go (N := 56) Tryz.ntmps61 300 ?_
        simp only [go_sem, Nat.reduceAdd, Nat.reduceMul, Nat.reduceSub, Nat.reduceBEq, Nat.reduceLT, Nat.reduceLeDiff, reduceIte, reduceCtorEq, Int.reduceToNat, Int.reduceLE, Int.reduceLT, Int.reduceNe, Int.reduceMul, Int.reduceAdd, Int.reduceSub, Int.reduceDiv, Int.reduceMod, Int.reduceEq, Int.reduceGE, Int.reduceGT, Int.reduceNeg, Int.reduceBEq, Int.reduceBNe, Nat.reduceEqDiff, d2]
        refine pcall1 (lowest_pc n (by omega) (by omega)) rfl (N := 56) Tryz.ntmps61 rfl (go (N := 56) Tryz.ntmps61 300 ?_)
        simp only [go_sem, Nat.reduceAdd, Nat.reduceMul, Nat.reduceSub, Nat.reduceBEq, Nat.reduceLT, Nat.reduceLeDiff, reduceIte, reduceCtorEq, Int.reduceToNat, Int.reduceLE, Int.reduceLT, Int.reduceNe, Int.reduceMul, Int.reduceAdd, Int.reduceSub, Int.reduceDiv, Int.reduceMod, Int.reduceEq, Int.reduceGE, Int.reduceGT, Int.reduceNeg, Int.reduceBEq, Int.reduceBNe, Nat.reduceEqDiff]
        rw [show lowestL n = (nextX [] n).2 by simp [nextX, hn0], show (0 : Int) = (nextX [] n).1 by simp [nextX, hn0]]
        refine ainv (hQ () trivial) (Shift.weak ?_)
        simp only [wk, go_sem, Nat.reduceAdd, Nat.reduceMul, Nat.reduceSub, Nat.reduceBEq, Nat.reduceLT, Nat.reduceLeDiff, reduceIte, reduceCtorEq, Int.reduceToNat, Int.reduceLE, Int.reduceLT, Int.reduceNe, Int.reduceMul, Int.reduceAdd, Int.reduceSub, Int.reduceDiv, Int.reduceMod, Int.reduceEq, Int.reduceGE, Int.reduceGT, Int.reduceNeg, Int.reduceBEq, Int.reduceBNe, Nat.reduceEqDiff]
    · have d1 : (a == []) = false := by simpa using ha0
      obtain ⟨ho, hl, hc, h0, h1⟩ := ha.resolve_left ha0
      have hcl : (caps a).length ≤ a.length := by unfold caps; exact (List.dropWhile_suffix _).length_le
      refine go (N := 56) Tryz.ntmps61 300 ?_
      simp only [go_sem, Nat.reduceAdd, Nat.reduceMul, Nat.reduceSub, Nat.reduceBEq, Nat.reduceLT, Nat.reduceLeDiff, reduceIte, reduceCtorEq, Int.reduceToNat, Int.reduceLE, Int.reduceLT, Int.reduceNe, Int.reduceMul, Int.reduceAdd, Int.reduceSub, Int.reduceDiv, Int.reduceMod, Int.reduceEq, Int.reduceGE, Int.reduceGT, Int.reduceNeg, Int.reduceBEq, Int.reduceBNe, Nat.reduceEqDiff, d1]
      refine pcall1 (parse_pc a (by omega) ho) rfl (N := 56) Tryz.ntmps61 rfl (go (N := 56) Tryz.ntmps61 300 ?_)
      by_cases hn0 : n = 0
      · subst hn0
        simp only [go_sem, Nat.reduceAdd, Nat.reduceMul, Nat.reduceSub, Nat.reduceBEq, Nat.reduceLT, Nat.reduceLeDiff, reduceIte, reduceCtorEq, Int.reduceToNat, Int.reduceLE, Int.reduceLT, Int.reduceNe, Int.reduceMul, Int.reduceAdd, Int.reduceSub, Int.reduceDiv, Int.reduceMod, Int.reduceEq, Int.reduceGE, Int.reduceGT, Int.reduceNeg, Int.reduceBEq, Int.reduceBNe, Nat.reduceEqDiff]
        refine ⟨by omega, by omega, ?_⟩
        rw [show pN a + 1 = (nextX a 0).1 by simp [nextX, ha0], show (AV.str []) = .str (nextX a 0).2 by simp [nextX, ha0]]
        refine ainv (hQ () trivial) (Shift.weak ?_)
        simp only [wk, go_sem, Nat.reduceAdd, Nat.reduceMul, Nat.reduceSub, Nat.reduceBEq, Nat.reduceLT, Nat.reduceLeDiff, reduceIte, reduceCtorEq, Int.reduceToNat, Int.reduceLE, Int.reduceLT, Int.reduceNe, Int.reduceMul, Int.reduceAdd, Int.reduceSub, Int.reduceDiv, Int.reduceMod, Int.reduceEq, Int.reduceGE, Int.reduceGT, Int.reduceNeg, Int.reduceBEq, Int.reduceBNe, Nat.reduceEqDiff]
      have d2 : ((n : Int) == 0) = false := by simp; omega
      have d3 : decide ((n : Int) > 0) = true := by simp; omega
      simp only [go_sem, Nat.reduceAdd, Nat.reduceMul, Nat.reduceSub, Nat.reduceBEq, Nat.reduceLT, Nat.reduceLeDiff, reduceIte, reduceCtorEq, Int.reduceToNat, Int.reduceLE, Int.reduceLT, Int.reduceNe, Int.reduceMul, Int.reduceAdd, Int.reduceSub, Int.reduceDiv, Int.reduceMod, Int.reduceEq, Int.reduceGE, Int.reduceGT, Int.reduceNeg, Int.reduceBEq, Int.reduceBNe, Nat.reduceEqDiff, d3]
      refine pcall1 (above_pc (caps a) n (by omega) (by omega) (by omega) (cap_le hc)) rfl (N := 56) Tryz.ntmps61 rfl (go (N := 56) Tryz.ntmps61 300 ?_)
      by_cases hz : aboveL (caps a) n = []
      · have d4 : (aboveL (caps a) n == []) = true := by simpa using hz
        simp only [go_sem, Nat.reduceAdd, Nat.reduceMul, Nat.reduceSub, Nat.reduceBEq, Nat.reduceLT, Nat.reduceLeDiff, reduceIte, reduceCtorEq, Int.reduceToNat, Int.reduceLE, Int.reduceLT, Int.reduceNe, Int.reduceMul, Int.reduceAdd, Int.reduceSub, Int.reduceDiv, Int.reduceMod, Int.reduceEq, Int.reduceGE, Int.reduceGT, Int.reduceNeg, Int.reduceBEq, Int.reduceBNe, Nat.reduceEqDiff, d2, d3, d4]
        refine ⟨by omega, by omega, ?_⟩
        refine pcall1 (lowest_pc n (by omega) (by omega)) rfl (N := 56) Tryz.ntmps61 rfl (go (N := 56) Tryz.ntmps61 300 ?_)
        simp only [go_sem, Nat.reduceAdd, Nat.reduceMul, Nat.reduceSub, Nat.reduceBEq, Nat.reduceLT, Nat.reduceLeDiff, reduceIte, reduceCtorEq, Int.reduceToNat, Int.reduceLE, Int.reduceLT, Int.reduceNe, Int.reduceMul, Int.reduceAdd, Int.reduceSub, Int.reduceDiv, Int.reduceMod, Int.reduceEq, Int.reduceGE, Int.reduceGT, Int.reduceNeg, Int.reduceBEq, Int.reduceBNe, Nat.reduceEqDiff]
        rw [show pN a + 1 = (nextX a n).1 by simp [nextX, ha0, hn0, hz], show lowestL n = (nextX a n).2 by simp [nextX, ha0, hn0, hz]]
        refine ainv (hQ () trivial) (Shift.weak ?_)
        simp only [wk, go_sem, Nat.reduceAdd, Nat.reduceMul, Nat.reduceSub, Nat.reduceBEq, Nat.reduceLT, Nat.reduceLeDiff, reduceIte, reduceCtorEq, Int.reduceToNat, Int.reduceLE, Int.reduceLT, Int.reduceNe, Int.reduceMul, Int.reduceAdd, Int.reduceSub, Int.reduceDiv, Int.reduceMod, Int.reduceEq, Int.reduceGE, Int.reduceGT, Int.reduceNeg, Int.reduceBEq, Int.reduceBNe, Nat.reduceEqDiff]
      · have d4 : (aboveL (caps a) n == []) = false := by simpa using hz
        simp only [go_sem, Nat.reduceAdd, Nat.reduceMul, Nat.reduceSub, Nat.reduceBEq, Nat.reduceLT, Nat.reduceLeDiff, reduceIte, reduceCtorEq, Int.reduceToNat, Int.reduceLE, Int.reduceLT, Int.reduceNe, Int.reduceMul, Int.reduceAdd, Int.reduceSub, Int.reduceDiv, Int.reduceMod, Int.reduceEq, Int.reduceGE, Int.reduceGT, Int.reduceNeg, Int.reduceBEq, Int.reduceBNe, Nat.reduceEqDiff, d2, d3, d4]
        have e1 : (nextX a n).1 = pN a := by simp [nextX, ha0, hn0, hz]
        have e2 : (nextX a n).2 = aboveL (caps a) n := by simp [nextX, ha0, hn0, hz]
        rw [← e1, ← e2]
        refine ainv (hQ () trivial) (Shift.weak ?_)
        simp only [wk, go_sem, Nat.reduceAdd, Nat.reduceMul, Nat.reduceSub, Nat.reduceBEq, Nat.reduceLT, Nat.reduceLeDiff, reduceIte, reduceCtorEq, Int.reduceToNat, Int.reduceLE, Int.reduceLT, Int.reduceNe, Int.reduceMul, Int.reduceAdd, Int.reduceSub, Int.reduceDiv, Int.reduceMod, Int.reduceEq, Int.reduceGE, Int.reduceGT, Int.reduceNeg, Int.reduceBEq, Int.reduceBNe, Nat.reduceEqDiff]

theorem cap_iff {x : UInt8} : capB x = true ↔ 65 ≤ x.toNat ∧ x.toNat ≤ 90 := by
  simp only [capB, capI, Bool.and_eq_true, decide_eq_true_eq]; omega
theorem rep_cap (n : Nat) : (Lib.repeatL [65] n).all capB = true := by
  induction n with
  | zero => rfl
  | succ n ih => simp only [Lib.repeatL, List.all_append, ih]; rfl
theorem lowest_cap (n : Nat) : (lowestL n).all capB = true := by
  simp only [lowestL, List.all_append, rep_cap]; rfl
theorem bump_cap : ∀ (l r : List UInt8), bumpR l = some r → l.all capB = true → r.all capB = true
  | [], r, h, _ => by simp [bumpR] at h
  | c :: l, r, h, hc => by
    simp only [List.all_cons, Bool.and_eq_true] at hc
    unfold bumpR at h
    split at h
    · cases hq : bumpR l with
      | none => simp [hq] at h
      | some r' =>
        simp [hq] at h; subst h
        simp only [List.all_cons, bump_cap l r' hq hc.2, Bool.and_true]; rfl
    · rename_i h90
      simp at h; subst h
      have h1 := cap_iff.1 hc.1
      have h2 : c.toNat ≠ 90 := fun e => h90 (UInt8.toNat_inj.1 e)
      have h3 : (c + 1).toNat = (c.toNat + 1) % 256 := by rw [UInt8.toNat_add]; rfl
      have h4 : capB (c + 1) = true := cap_iff.2 (by omega)
      simp only [List.all_cons, h4, hc.2, Bool.and_self]
theorem fix_cap (l : List UInt8) (h : l.all capB = true) : (fixR l).all capB = true := by
  cases l with
  | nil => rfl
  | cons c l =>
    simp only [List.all_cons, Bool.and_eq_true] at h
    simp only [fixR, List.all_cons, h.2, Bool.and_true]
    split
    · rfl
    · exact h.1
theorem above_cap {c : List UInt8} (h : c.all capB = true) (n : Nat) : (aboveL c n).all capB = true := by
  unfold aboveL
  split
  · simp only [List.all_append, h, lowest_cap, Bool.and_self]
  · split
    · rfl
    · rename_i r hr
      rw [List.all_reverse]
      refine fix_cap r (bump_cap _ _ hr ?_)
      rw [List.all_reverse]
      rw [List.all_eq_true] at h ⊢
      exact fun x hx => h x (List.mem_of_mem_take hx)
theorem nextX_cap {a : List UInt8} (n : Nat) (h : (caps a).all capB = true) : (nextX a n).2.all capB = true := by
  unfold nextX
  split
  · split
    · rfl
    · exact lowest_cap n
  · split
    · rfl
    · split
      · exact lowest_cap n
      · exact above_cap h n
theorem split_num {d c : List UInt8} (hd : d.all digB = true) (hc : c.all capB = true) : digs (d ++ c) = d ∧ caps (d ++ c) = c := by
  have h := takeWhile_at (p := digB) (s := d ++ c) (k := d.length) (by simp) (by simpa using hd) (by
    cases c with
    | nil => left; simp
    | cons x c =>
      right
      simp only [List.all_cons, Bool.and_eq_true] at hc
      have h1 := cap_iff.1 hc.1
      have : (d ++ x :: c).getD d.length 0 = x := by simp [List.getD]
      rw [this]
      simp only [digB, digI]; simp; omega)
  exact ⟨by rw [digs, h.1]; simp, by rw [caps, h.2]; simp⟩
theorem caps_nil : (caps []).all capB = true := rfl
theorem next_num {a : List UInt8} {n : Nat} (hn : n ≤ 100) (ha : okA a) : nextL a n = [] ∨ (okD (nextL a n) ∧ (nextL a n).length < 100010 ∧ (caps (nextL a n)).all capB = true) := by
  have hb := nextX_small hn ha
  unfold nextL
  split
  · exact .inl rfl
  · have hc : (caps a).all capB = true := by
      rcases ha with rfl | h
      · exact caps_nil
      · exact h.2.2.1
    have hs := split_num (dig3_all hb.1 (by omega)) (nextX_cap n hc)
    have hl := dig3_len (nextX a n).1
    refine .inr ⟨?_, by simp; omega, by rw [hs.2]; exact nextX_cap n hc⟩
    unfold okD; rw [hs.1]; omega

theorem decFrom_lt : ∀ (l : List UInt8) (acc n : Nat), Lib.decFrom acc l = some n → n < (acc + 1) * 10 ^ l.length
  | [], acc, n, h => by simp [Lib.decFrom] at h; simp; omega
  | c :: l, acc, n, h => by
    unfold Lib.decFrom at h
    split at h
    · rename_i d hd
      have ih := decFrom_lt l _ _ h
      have : d ≤ 9 := by
        unfold Lib.digitVal at hd
        split at hd
        · simp at hd; omega
        · cases hd
      refine Nat.lt_of_lt_of_le ih ?_
      rw [List.length_cons, Nat.pow_succ, Nat.mul_comm (10 ^ l.length) 10, ← Nat.mul_assoc]
      exact Nat.mul_le_mul_right _ (by omega)
    · cases h
theorem pN_bound {a : List UInt8} (h : okD a) : 0 ≤ pN a ∧ pN a < ((10 ^ (digs a).length : Nat) : Int) := by
  obtain ⟨n, hn⟩ := decFrom_digs (digs a) 0 (digs_all a)
  have hlt := decFrom_lt _ _ _ hn
  have hat := atoi_digs h
  have h1 := h.1
  have ha := digs_all a
  have key : pN a = (n : Int) := by
    cases hq : digs a with
    | nil => simp [hq] at h1
    | cons b r =>
      rw [hq] at hn ha hat
      simp only [List.all_cons, Bool.and_eq_true, digB, digI, decide_eq_true_eq] at ha
      have b1 : (b == 45) = false := by
        cases hb : b == 45 with
        | false => rfl
        | true => have : b = 45 := by simpa using hb
                  subst this; exact absurd ha.1.1 (by decide)
      have b2 : (b == 43) = false := by
        cases hb : b == 43 with
        | false => rfl
        | true => have : b = 43 := by simpa using hb
                  subst this; exact absurd ha.1.1 (by decide)
      simp [Lib.atoi, b1, b2, Lib.decNat, hn] at hat
      exact hat.symm
  rw [key]
  refine ⟨by omega, ?_⟩
  simp at hlt
  exact_mod_cast hlt
theorem number_okD {a : List UInt8} (h : numberL a = true) : okD a ∧ (digs a).length ≤ 3 ∧ (caps a).length ≤ 5 ∧ (caps a).all capB = true := by
  unfold numberL at h
  simp only [Bool.and_eq_true, Bool.not_eq_true', Bool.or_eq_false_iff, decide_eq_false_iff_not] at h
  obtain ⟨h1, ⟨h2, _⟩, h3⟩ := h
  have hc : (caps a).length ≤ 5 := by omega
  split at h3
  · rename_i hd
    unfold okD
    rw [hd]
    exact ⟨by simp, by simp, hc, h1⟩
  · simp only [Bool.and_eq_true, decide_eq_true_eq] at h3
    exact ⟨⟨h3.1, by omega⟩, h3.2.1, hc, h1⟩
theorem digs_caps (s : List UInt8) : s = digs s ++ caps s := by simp [digs, caps]
theorem number_okA {a : List UInt8} (h : numberL a = true) : okD a ∧ a.length < 1000 ∧ (caps a).all capB = true ∧ 0 ≤ pN a ∧ pN a < 1000000 := by
  obtain ⟨h1, h2, h3, h4⟩ := number_okD h
  have hl := congrArg List.length (digs_caps a)
  simp only [List.length_append] at hl
  have hp := pN_bound h1
  have : 10 ^ (digs a).length ≤ 10 ^ 3 := Nat.pow_le_pow_right (by omega) h2
  exact ⟨h1, by omega, h4, hp.1, by omega⟩
end Go.Proofs.YtpjbbpilgfihbaaGreatDoor
