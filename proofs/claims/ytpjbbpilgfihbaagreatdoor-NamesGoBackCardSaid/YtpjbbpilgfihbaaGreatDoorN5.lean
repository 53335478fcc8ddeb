/- strings.Builder: what writing a byte does to memory, to the block. Own work of this seat. -/
import Derived.Test.YtpjbbpilgfihbaaGreatDoorN4
import Derived.Laws.AppendOwn
import Derived.Test.YtpjbbpilgfihbaaGreatDoorN3
import Derived.Shelf.Strings.IndexAnyAll
import Derived.Shelf.Strings.SlTrimAscii
import Derived.Shelf.Strconv.AtoiErr
import Derived.Test.YtpjbbpilgfihbaaGreatDoorProg
import Derived.Lib.AtoiErrMem
set_option linter.unusedVariables false
set_option linter.unusedSimpArgs false
namespace Go.Proofs.YtpjbbpilgfihbaaGreatDoor
open Go Go.RowKit Go.Lib
open Go.Av (Fr rowOf WriteBC)

/-- where the row stands behind an append of one byte -/
theorem append_blockB {w : World} {B : Nat} {v v' : Value} {n : Nat} {xs : List Value} {x : Value} {ad : Addr} {c : Nat} {ty : TypeId} {w' : World} {i : TypeInfo} (hi : Tryz.prog.info? 5 = some i) (hz : i.zero = some (.int .u8 0)) (hsize : i.size = 1) (hby : i.bytes = 1)
    (hown : w.ownsRow B 5 1 v n xs) (hx : w.cell? (ad.add 0) = some x) (h1 : x.oneCell' = true) (hb : n + 1 ≤ 140737488355328) (hr : (Builtin.append_ #[116, 116] ty #[v, .slice (some ad) 1 c]).run Tryz.prog w = .ok v' w') :
    v'.ownBlock = none ∨ v'.ownBlock = v.ownBlock ∨ v'.ownBlock = some w.heap.size := by
  have hxl : xs.length = n := by simpa using hown.1
  have hnews : ∀ j u, [x][j]? = some u → w.cell? (ad.add j) = some u := fun j u hj => by
    cases j with
    | zero => simp only [List.getElem?_cons_zero, Option.some.injEq] at hj; rw [← hj]; exact hx
    | succ j => simp at hj
  have h1' : ∀ u ∈ [x], u.oneCell' = true := fun u hu => by rw [List.mem_singleton.1 hu]; exact h1
  rcases hown.2 with ⟨rfl, rfl⟩ | ⟨g, cap, cur, rfl, hbg, hg, hnc, hcm, hcs, htake⟩
  · have h := run_append_nil (P := Tryz.prog) w 116 ty 5 i (.int .u8 0) Tryz.underlying116 hi hz ad 1 c [x] (by simp [hsize]) hnews (by omega) (by omega) (by rw [hby]; omega)
    rw [hr] at h
    have : v' = .slice (some ⟨w.heap.size, 0, none⟩) 1 (grownCap w 1 0 5) := (show v' = _ ∧ w' = _ by simpa using h).1
    rw [this]; exact .inr (.inr rfl)
  · by_cases hroom : n + 1 ≤ cap
    · have h := run_append_room (P := Tryz.prog) w 116 ty 5 i Tryz.underlying116 hi g n cap cur hg ad 1 c [x] (by simp [hsize]) hnews h1' hroom (by simp [hsize]; omega)
      rw [hr] at h
      have : v' = .slice (some ⟨g, 0, none⟩) (n + 1) cap := (show v' = _ ∧ w' = _ by simpa using h).1
      rw [this]; exact .inr (.inl rfl)
    · have h := run_append_grow (P := Tryz.prog) w 116 ty 5 i (.int .u8 0) Tryz.underlying116 hi hz ⟨g, 0, none⟩ n cap xs (by rw [hsize]; simpa using hxl) (hown.cells (g := g) rfl) ad 1 c [x] (by simp [hsize]) hnews (by omega) (by omega) (by rw [hby]; exact growslice_fits (by omega) (by omega))
      rw [hr] at h
      have : v' = .slice (some ⟨w.heap.size, 0, none⟩) (n + 1) (grownCap w (n + 1) cap 5) := (show v' = _ ∧ w' = _ by simpa using h).1
      rw [this]; exact .inr (.inr rfl)

/-- the operation, for the walk -/
theorem wpList_appendB {w : World} {ops : Array Oper} {rest : List Oper} {o : Oper} {a : Act} {Q : Exit → Act → World → Prop} (hgd : o.guard = none) (sl x : Operand)
    (ho : o.op = .call { callee := .builtin .append, args := #[sl, x], argTypes := #[116, 116] }) (B : Nat) (i : TypeInfo) (hi : Tryz.prog.info? 5 = some i) (hz : i.zero = some (.int .u8 0)) (hsize : i.size = 1) (hby : i.bytes = 1)
    (v : Value) (n : Nat) (xs : List Value) (hs : a.eval sl = v) (hown : w.ownsRow B 5 1 v n xs) (ad : Addr) (c : Nat) (u : Value) (hx : a.eval x = .slice (some ad) 1 c) (hu : w.cell? (ad.add 0) = some u) (h1 : u.oneCell' = true) (hb : n + 1 ≤ 140737488355328) (hB : B ≤ w.heap.size)
    (h : ∀ v' w', w'.ownsRow B 5 1 v' (n + 1) (xs ++ [u]) → w.grownBy w' v.ownBlock → (v'.ownBlock = none ∨ v'.ownBlock = v.ownBlock ∨ v'.ownBlock = some w.heap.size) → wpList Tryz.prog ops Q rest (a.put o.dst v') w') : wpList Tryz.prog ops Q (o :: rest) a w := by
  refine wpList_plain hgd fun K hK => ?_
  have hnews : ∀ j v, [u][j]? = some v → w.cell? (ad.add j) = some v := fun j v hj => by
    cases j with
    | zero => simp only [List.getElem?_cons_zero, Option.some.injEq] at hj; rw [← hj]; exact hu
    | succ j => simp at hj
  obtain ⟨v', w', hr, h2, h3, _⟩ := run_append_own (P := Tryz.prog) w B 116 o.type 5 i (.int .u8 0) 1 1 Tryz.underlying116 hi hz hsize hby rfl (by omega) v n xs hown ad 1 c [u] rfl hnews (fun y hy => by rw [List.mem_singleton.1 hy]; exact h1) (by unfold maxLen; omega) (by omega) hB
  have hbk := append_blockB hi hz hsize hby hown hu h1 hb hr
  unfold Oper.wp execOp
  simp only [ho, resolve, invoke, builtin, Sem.run_bind, Sem.run_pure, Result.andThen_ok, List.map_toArray, List.map_cons, List.map_nil, hs, hx, hr]
  exact hK _ _ (h v' w' h2 h3 hbk)

set_option maxHeartbeats 2000000 in
set_option maxRecDepth 100000 in
/-- what WriteByte does -/
theorem wbyte (B b : Nat) (l : List UInt8) (x : UInt8) (w : World) (h : IsBuilder 118 5 B b (Lib.byteCells l) w) (hlen : l.length + 1 ≤ 140737488355328) (hBw : B ≤ w.heap.size) :
    Calls Tryz.prog 81 #[.pointer (some ⟨b, 0, none⟩), .int .u8 x.toNat] w fun e w' => e = .returned .nilIface ∧ BuilderAt 118 5 B b (.pointer (some ⟨b, 0, none⟩)) (Lib.byteCells (l ++ [x])) w' ∧
      Fr w w' b (rowOf w b) ∧ ∀ r, rowOf w' b = some r → rowOf w b = some r ∨ w.heap.size ≤ r := by
  obtain ⟨i0, hi, hz0, hz1, hz2⟩ := info_parts Tryz.Builder_Extra_169.infoByte
  go_enter Tryz.func81, Tryz.ntmps81
  go_wp2_with (go_at_call 122; refine (cc B b (Lib.byteCells l) _ h).mono ?_)
  rintro e w1 ⟨rfl, h1, hf, hc1⟩
  obtain ⟨hB, v, hbk, hown, hne⟩ := h1
  have c0 : w1.cell? ⟨b, 0, none⟩ = some (.pointer (some ⟨b, 0, none⟩)) := by rw [cell_of_heap hbk]; rfl
  have c1 : w1.cell? ⟨b, 1, none⟩ = some v := by rw [cell_of_heap hbk]; rfl
  have hrow : rowOf w b = v.ownBlock := by rw [rowOf, ← hc1, c1]; rfl
  clear hc1
  go_wp2_with (at_builtin; refine wpList_appendB rfl _ _ rfl B i0 hi hz0 hz1 hz2 _ _ _ rfl (hown.alloc _) ⟨w1.heap.size, 0, none⟩ 1 (.int .u8 x.toNat) rfl ?c1 rfl ?c4 ?c5 ?_)
  case c1 => simp [Addr.add]
  case c4 => simpa [Lib.byteCells_length] using hlen
  case c5 => have := hf.size; simp; omega
  intro v' w2 hown' hgrow hblk
  have hlt : b < w1.heap.size := by
    rcases Nat.lt_or_ge b w1.heap.size with h' | h'
    · exact h'
    · simp [Array.getElem?_eq_none h'] at hbk
  have hb2 : w2.heap[b]? = some (.cells #[.pointer (some ⟨b, 0, none⟩), v] 118 (0, 0)) := by
    rw [hgrow.block b (by simp; omega) (fun e => hne e.symm), alloc_old w1 _ b hlt]
    exact hbk
  have d0 : w2.cell? ⟨b, 0, none⟩ = some (.pointer (some ⟨b, 0, none⟩)) := by rw [cell_of_heap hb2]; rfl
  have d1 : w2.cell? ⟨b, 1, none⟩ = some v := by rw [cell_of_heap hb2]; rfl
  have f1 : w2.frozen? ⟨b, 1, none⟩ = false := frozen_of_heap hb2 1
  obtain ⟨ao, n', cap, rfl⟩ : ∃ ao n' cap, v' = .slice ao n' cap := by
    rcases hown'.2 with ⟨hv, _⟩ | ⟨g, cap, cur, hv, _⟩
    · exact ⟨_, _, _, hv⟩
    · exact ⟨_, _, _, hv⟩
  go_wp2
  go_ret
  refine ⟨rfl, BuilderAt.put (T := 118) (e := 5) hB hb2 (bs' := Lib.byteCells (l ++ [x])) (by simpa [Lib.byteCells, Lib.byteCells_length] using hown') (by decide), ?_⟩
  have hw2 : rowOf (w2.setCell ⟨b, 1, none⟩ (.slice ao n' cap)) b = Value.ownBlock (.slice ao n' cap) := by
    rw [rowOf, World.cell?_setCell_same _ _ _ d1]; rfl
  have hg1 := hgrow.size
  have hg2 := hf.size
  have hg1 : w1.heap.size + 1 ≤ w2.heap.size := by simpa using hg1
  rw [hrow]
  refine ⟨⟨(hgrow.os.trans hf.os), (hgrow.tape.trans hf.tape), (hgrow.output.trans hf.output), by simp [World.setCell]; omega, fun k hk hkb hkr => by
    rw [heap_setCell_other _ _ k _ hkb, hgrow.block k (by simp; omega) hkr, alloc_old w1 _ k (by omega), hf.block k hk hkb (by simp)]⟩, fun r hr => ?_⟩
  rw [hw2] at hr
  rcases hblk with h | h | h
  · rw [h] at hr; cases hr
  · rw [h] at hr; exact .inl hr
  · rw [h] at hr
    simp at hr
    exact .inr (by omega)

theorem writeB_c : WriteBC Tryz.prog 81 118 5 := ⟨hB81, fun B b l x w h h1 h2 => wbyte B b l x w h h1 h2⟩
end Go.Proofs.YtpjbbpilgfihbaaGreatDoor
/- Functions of package strings, out of the library's contracts. Own work of this seat. -/
set_option linter.unusedSimpArgs false
set_option linter.unusedVariables false
namespace Go.Proofs.YtpjbbpilgfihbaaGreatDoor
open Go Go.Av Go.RowKit

theorem pch_lib {g : Std} {f : FuncId} {args : List AV} {r : AV} (vs : List Value) (v : Value) (hb : hasBody Tryz.prog f = true) (ha : ∀ h vs', RL h Lf0 true vs' args → vs' = vs) (hr : ∀ h, RV h Lf0 true v r)
    (H : ∀ w, Stands g w → Calls Tryz.prog f vs.toArray w fun e w' => e = .returned v ∧ Same w w') : PcH Tryz.prog g f args (· = r) := by
  refine ⟨hb, fun h w vs' hg hm hv => ?_⟩
  have := ha h vs' hv
  subst this
  refine (H w hg).mono ?_
  rintro e w' ⟨rfl, hs⟩
  exact ⟨v, r, h, rfl, rfl, fun b o v e => ⟨hs.cell (hm b o v e).1, (hm b o v e).2⟩, fun _ _ _ x => x, fun b o e n => (n e).elim, hs, hr h⟩
theorem pc_lib {f : FuncId} {args : List AV} {r : AV} (vs : List Value) (v : Value) (hb : hasBody Tryz.prog f = true) (ha : ∀ h vs', RL h Lf0 true vs' args → vs' = vs) (hr : ∀ h, RV h Lf0 true v r)
    (H : ∀ w, Calls Tryz.prog f vs.toArray w fun e w' => e = .returned v ∧ Same w w') : Pc Tryz.prog f args (· = r) := by
  refine ⟨hb, fun h w vs' hm hv => ?_⟩
  have := ha h vs' hv
  subst this
  refine (H w).mono ?_
  rintro e w' ⟨rfl, hs⟩
  exact ⟨v, r, h, rfl, rfl, fun b o v e => ⟨hs.cell (hm b o v e).1, (hm b o v e).2⟩, fun _ _ _ x => x, fun b o e n => (n e).elim, hs, hr h⟩

theorem rv_str {h : Mem} {v : Value} {s : List UInt8} (r : RV h Lf0 true v (.str s)) : v = .string ⟨s.toArray⟩ := by cases r with | str => rfl
theorem rv_int {h : Mem} {v : Value} {k : IntKind} {n : Int} (r : RV h Lf0 true v (.int k n)) : v = .int k n := by cases r with | int => rfl
theorem two_strs (s p : List UInt8) : ∀ h vs', RL h Lf0 true vs' [.str s, .str p] → vs' = [.string ⟨s.toArray⟩, .string ⟨p.toArray⟩] := by
  intro h vs' r
  cases r with | cons r1 r => cases r with | cons r2 r => cases r; rw [rv_str r1, rv_str r2]


theorem cutPrefix_pc (s p : List UInt8) : Pc Tryz.prog 64 [.str s, .str p] (· = .tup [.str (Lib.trimPrefix s p), .bool (Lib.hasPrefix s p)]) :=
  pc_lib [_, _] (.tuple #[.string ⟨(Lib.trimPrefix s p).toArray⟩, .bool (Lib.hasPrefix s p)]) hB64 (two_strs s p) (fun h => .tup [_, _] [_, _] (.cons (.str _) (.cons (.bool _) .nil)))
    fun w => (Any.strings_CutPrefix Tryz.lays103 ⟨s.toArray⟩ ⟨p.toArray⟩ w).mono fun e w' ⟨h1, h2⟩ => ⟨h1, h2 ▸ .refl w⟩
theorem hasPrefix_pc (s p : List UInt8) : Pc Tryz.prog 79 [.str s, .str p] (· = .bool (Lib.hasPrefix s p)) :=
  pc_lib [_, _] (.bool (Lib.hasPrefix s p)) hB79 (two_strs s p) (fun h => .bool _) fun w => (Any.strings_HasPrefix Tryz.lays99 ⟨s.toArray⟩ ⟨p.toArray⟩ w).mono fun e w' ⟨h1, h2⟩ => ⟨h1, h2 ▸ .refl w⟩
theorem hasSuffix_pc (s p : List UInt8) (hs : s.length ≤ 9223372036854775807) : Pc Tryz.prog 56 [.str s, .str p] (· = .bool (Lib.hasSuffix s p)) :=
  pc_lib [_, _] (.bool (Lib.hasSuffix s p)) hB56 (two_strs s p) (fun h => .bool _) fun w => (Any.strings_HasSuffix Tryz.lays100 ⟨s.toArray⟩ ⟨p.toArray⟩ w hs).mono fun e w' ⟨h1, h2⟩ => ⟨h1, h2 ▸ .refl w⟩
theorem lastIndex_pc (s p : List UInt8) (hs : s.length < 4611686018427387904) : Pc Tryz.prog 170 [.str s, .str p] (· = .int .i64 (Lib.lastIndex s p)) :=
  pc_lib [_, _] (.int .i64 (Lib.lastIndex s p)) hB170 (two_strs s p) (fun h => .int _ _) fun w => (Any.strings_LastIndex Tryz.lays148 ⟨s.toArray⟩ ⟨p.toArray⟩ hs w).mono fun e w' ⟨h1, h2⟩ => ⟨h1, h2 ▸ .refl w⟩
theorem indexByte_pc (s : List UInt8) (c : Int) : Pc Tryz.prog 119 [.str s, .int .u8 c] (· = .int .i64 (Lib.indexByte s c.toNat.toUInt8)) :=
  pc_lib [.string ⟨s.toArray⟩, .int .u8 c] (.int .i64 (Lib.indexByte s c.toNat.toUInt8)) hB119 (fun h vs' r => by cases r with | cons r1 r => cases r with | cons r2 r => cases r; rw [rv_str r1, rv_int r2]) (fun h => .int _ _)
    fun w => (Any.strings_IndexByte Tryz.lays137 ⟨s.toArray⟩ c w).mono fun e w' ⟨h1, h2⟩ => ⟨h1, h2 ▸ .refl w⟩


theorem contains_pch {S : Std} (hS : LibOk S) (s p : List UInt8) (hs : s.length < 4294967281) : PcH Tryz.prog S 115 [.str s, .str p] (· = .bool (Lib.contains s p)) :=
  pch_lib [_, _] (.bool (Lib.contains s p)) hB115 (two_strs s p) (fun h => .bool _) fun w H => (Any.strings_Contains Tryz.lays144 ⟨s.toArray⟩ ⟨p.toArray⟩ _ w hs (hS.cell.choose_spec w H)).mono fun e w' ⟨h1, h2⟩ => ⟨h1, h2 ▸ .refl w⟩

theorem same_drewN (w : World) : ∀ n, Same w (w.drewN n) := fun n => ⟨rfl, rfl, rfl, Nat.le_refl _, fun _ _ => rfl⟩

theorem cut_pch {S : Std} (hS : LibOk S) (s p : List UInt8) (hs : s.length < 4294967281) : PcH Tryz.prog S 169 [.str s, .str p] (· = .tup [.str (Lib.cut s p).1, .str (Lib.cut s p).2.1, .bool (Lib.cut s p).2.2]) :=
  pch_lib [_, _] (.tuple #[.string ⟨(Lib.cut s p).1.toArray⟩, .string ⟨(Lib.cut s p).2.1.toArray⟩, .bool (Lib.cut s p).2.2]) hB169 (two_strs s p) (fun h => .tup [_, _, _] [_, _, _] (.cons (.str _) (.cons (.str _) (.cons (.bool _) .nil))))
    fun w H => (Any.strings_Cut Tryz.lays145 ⟨s.toArray⟩ ⟨p.toArray⟩ _ w hs (hS.cell.choose_spec w H)).mono fun e w' ⟨h1, n, h2⟩ => ⟨h1, h2 ▸ same_drewN w n⟩

/-- the pieces of a text, as lists of bytes -/
def splitL (s p : List UInt8) : List (List UInt8) := (Lib.splitB ⟨p.toArray⟩ 0 (Lib.countB ⟨s.toArray⟩ ⟨p.toArray⟩) ⟨s.toArray⟩).map (·.data.toList)

theorem split_pch {S : Std} (hS : LibOk S) (s p : List UInt8) (hs : s.length < 4294967281) (hp : 1 ≤ p.length) : PcH Tryz.prog S 62 [.str s, .str p] (· = .fz 1 (splitL s p |>.map .str)) := by
  refine ⟨hB62, fun h w vs' hg hm hv => ?_⟩
  have := two_strs s p h vs' hv
  subst this
  refine (Any.strings_Split Tryz.lays146 (by kernel_rfl) ⟨s.toArray⟩ ⟨p.toArray⟩ _ w hs (hS.cell.choose_spec w hg) hp).mono ?_
  rintro e w' ⟨rfl, rfl⟩
  have hlen := Lib.splitB_all ⟨p.toArray⟩ hp 0 _ ⟨s.toArray⟩ rfl
  generalize hL : Lib.splitB ⟨p.toArray⟩ 0 (Lib.countB ⟨s.toArray⟩ ⟨p.toArray⟩) ⟨s.toArray⟩ = L at hlen ⊢
  have hsl : splitL s p = L.map (·.data.toList) := by rw [splitL, hL]
  have hval : L.map Value.string = (splitL s p).map sval := by
    rw [hsl, List.map_map]; rfl
  rw [hval, ← hlen, show L.length = (splitL s p).length by rw [hsl]; simp]
  have h1 : ∀ v ∈ (splitL s p).map sval, v.oneCell' = true := by intro v hv; obtain ⟨x, _, rfl⟩ := List.mem_map.1 hv; rfl
  have hmine : Mine h (fun _ => none) [] w := ⟨hm, fun id blk e => by simp at e, fun _ _ => rfl, fun i j g t t' e => by simp at e, fun i g t e => by simp at e⟩
  obtain ⟨m2, l2⟩ := hmine.freezeNew ((splitL s p).map sval) 9 h1
  refine ⟨_, _, Mem.add h w.heap.size ((splitL s p).map sval), rfl, rfl, m2.mem, l2.hle, fun b o e n => ?_, .alloc w _, ?_⟩
  · rcases l2.hnew b o e n with ⟨j, t, hj⟩ | hs
    · cases hj
    · exact hs
  · have := RV.fz (h := Mem.add h w.heap.size ((splitL s p).map sval)) (Lf := Lf0) (fl := true) w.heap.size 0 (splitL s p).length 1 ((splitL s p).map .str) ((splitL s p).map sval) ?_ (by simp [cellsOf]) ?_ (by simp)
    · simpa using this
    · rw [flat_strs]
      generalize Mem.add h w.heap.size ((splitL s p).map sval) = hh
      generalize splitL s p = z
      induction z with
      | nil => exact .nil
      | cons x z ih => exact .cons (.str x) ih
    · intro k v hv
      simp only [Mem.add, Nat.zero_add, if_true]
      exact hv
end Go.Proofs.YtpjbbpilgfihbaaGreatDoor
/- What strings are: plain, proper, sets. Own work of this seat. -/
set_option maxRecDepth 100000
set_option linter.unusedSimpArgs false
set_option linter.unusedVariables false
namespace Go.Proofs.YtpjbbpilgfihbaaGreatDoor
open Go Go.Av Go.RowKit
attribute [local go_sem ↓] br_true br_false dbr_true dbr_false dbri_true dbri_false dbrg_true dbrg_false
attribute [local go_sem] run cont br dbr dx dxc dgrd dyld dres dcall calm fieldPlace? allHas step1 opN grdN resN condN exitN stopN exitIt dOk xop xbin xint xarith xstr xbool xpick xnot xneg xextract xpart xpartOk xindex xfieldF fieldD xnew xbox xalloc xfieldAddr xptrAddIf xindexAddr xloadC xload putCells reElem xstoreB xstore xconv xtext xlen xlen2 xcall xfill xbuild cut rep xbuildSlice xbuildSliceD isRow elemD isU8 ev evs evp Go.Av.put Go.Av.get ofConst yldD yldV notBool_undef args0 cellsOf cond_true cond_false decide_true decide_false decide_eq_true_eq decide_eq_false_iff_not List.getElem?_cons_zero List.getElem?_cons_succ List.getElem?_nil List.getD_cons_zero List.getD_cons_succ List.getD_nil List.set_cons_zero List.set_cons_succ List.length_cons List.length_nil List.cons_append List.nil_append List.append_nil List.all_cons List.all_nil List.map_cons List.map_nil List.take_succ_cons List.take_zero List.drop_succ_cons List.drop_zero Bool.and_true Bool.true_and Bool.and_self Bool.and_false Bool.false_and one Go.Av.frozen beq_self_eq_true true_and and_true forall_const false_implies implies_true and_self Option.map_some Option.map_none Nat.zero_add Nat.add_zero Nat.zero_mul Nat.mul_one Nat.one_mul Int.toNat_zero ne_eq not_false_eq_true not_true_eq_false Bool.true_eq_false Bool.false_eq_true List.toList_toArray inr Go.Av.byteOf isByte decide_eq_decide Bool.not_true Bool.not_false Bool.not_eq_true' Bool.or_true Bool.true_or Bool.or_false Bool.false_or ge_iff_le gt_iff_lt and_assoc Bool.decide_eq_true beq_iff_eq beq_eq_false_iff_ne bne_iff_ne bne_self_eq_false if_true if_false Bool.and_eq_true Bool.or_eq_true Bool.and_eq_false_imp Bool.or_eq_false_iff Bool.not_eq_false' has Option.isSome_some Option.isSome_none Int.toNat_natCast Int.cast_ofNat_Int List.length_append xapp2 xapp xappS xappD xappB notInt srcOf srcB byteAV splice' xcut xcutS xcutF xcutB xcutN xcut0 cutL loOf hiOf evo xmake zelem xmax xcopy2 xcopyS xcopyB xnil xcut3 ixOf xclear2 xclearB List.getElem?_toArray xbin2 xnileq xempty xmkmap xmput xmputB xmputF isKey keyEq mfind xbin3 xeqs xeqop eqFs bothB leafEq xlook xlookB xlookF xbytes beq_c_n beq_n_c bne_c_n bne_n_c one_nil dxi dxic dbri rix dck reader blind opOk refOk Go.Op.operands Go.Call.operands List.contains_cons List.contains_nil dxg dxgc dbrg pck putD List.lookup_cons List.lookup_nil ts2 tb2 zl2 za2 Tryz.underlying2 ts3 tb3 zl3 za3 Tryz.underlying3 ts4 tb4 zl4 za4 Tryz.underlying4 ts5 tb5 zl5 za5 Tryz.underlying5 ts6 tb6 zl6 za6 Tryz.underlying6 ts7 tb7 za7 Tryz.underlying7 ts8 tb8 za8 Tryz.underlying8 ts9 tb9 zl9 za9 Tryz.underlying9 ts10 tb10 zl10 za10 Tryz.underlying10 ts11 tb11 zl11 za11 Tryz.underlying11 ts12 tb12 zl12 za12 Tryz.underlying12 ts13 tb13 za13 Tryz.underlying13 ts14 tb14 za14 Tryz.underlying14 ts18 tb18 za18 Tryz.underlying18 ts19 tb19 za19 Tryz.underlying19 ts21 tb21 zl21 za21 Tryz.underlying21 ts22 tb22 zl22 za22 Tryz.underlying22 ts24 tb24 za24 Tryz.underlying24 ts25 tb25 za25 Tryz.underlying25 ts27 tb27 zl27 za27 Tryz.underlying27 ts35 tb35 zl35 za35 Tryz.underlying35 ts36 tb36 za36 Tryz.underlying36 ts37 tb37 za37 Tryz.underlying37 ts39 tb39 zl39 za39 Tryz.underlying39 ts41 tb41 za41 Tryz.underlying41 ts42 tb42 za42 Tryz.underlying42 ts63 tb63 zl63 za63 Tryz.underlying63 ts64 tb64 zl64 za64 Tryz.underlying64 ts65 tb65 za65 Tryz.underlying65 ts66 tb66 za66 Tryz.underlying66 ts67 tb67 zl67 za67 Tryz.underlying67 ts69 tb69 za69 Tryz.underlying69 ts70 tb70 za70 Tryz.underlying70 ts73 tb73 za73 Tryz.underlying73 ts74 tb74 za74 Tryz.underlying74 ts75 tb75 zl75 za75 Tryz.underlying75 ts82 tb82 zl82 za82 Tryz.underlying82 ts96 tb96 za96 Tryz.underlying96 ts97 tb97 za97 Tryz.underlying97 ts103 tb103 za103 Tryz.underlying103 ts104 tb104 za104 Tryz.underlying104 ts109 tb109 zl109 za109 Tryz.underlying109 ts116 tb116 zl116 za116 Tryz.underlying116 ts117 tb117 za117 Tryz.underlying117 ts118 tb118 za118 Tryz.underlying118 ts120 tb120 zl120 za120 Tryz.underlying120 ts124 tb124 zl124 za124 Tryz.underlying124 ts126 tb126 za126 Tryz.underlying126 ts128 tb128 zl128 za128 Tryz.underlying128 ts130 tb130 za130 Tryz.underlying130 ts131 tb131 za131 Tryz.underlying131 ts153 tb153 zl153 za153 Tryz.underlying153 ts167 tb167 zl167 za167 Tryz.underlying167 ts171 tb171 zl171 za171 Tryz.underlying171 ts177 tb177 zl177 za177 Tryz.underlying177 ts183 tb183 zl183 za183 Tryz.underlying183 ts189 tb189 zl189 za189 Tryz.underlying189 ts191 tb191 zl191 za191 Tryz.underlying191 ts195 tb195 za195 Tryz.underlying195 ts196 tb196 za196 Tryz.underlying196 ts198 tb198 zl198 za198 Tryz.underlying198 ts203 tb203 Tryz.underlying203 ts209 tb209 za209 Tryz.underlying209 ts210 tb210 za210 Tryz.underlying210 ts211 tb211 Tryz.underlying211 ts216 tb216 za216 Tryz.underlying216 ts217 tb217 za217 Tryz.underlying217 ts220 tb220 Tryz.underlying220 ts225 tb225 Tryz.underlying225 ts226 tb226 Tryz.underlying226 ts227 tb227 za227 Tryz.underlying227 ts228 tb228 za228 Tryz.underlying228 ts232 tb232 zl232 za232 Tryz.underlying232 ts233 tb233 zl233 za233 Tryz.underlying233 ts235 tb235 zl235 za235 Tryz.underlying235 ts236 tb236 zl236 za236 Tryz.underlying236 ts237 tb237 za237 Tryz.underlying237 ts238 tb238 za238 Tryz.underlying238


def digI (n : Int) : Bool := decide (n ≥ 48) && decide (n ≤ 57)
def capI (n : Int) : Bool := decide (n ≥ 65) && decide (n ≤ 90)

theorem isDigit_pc (n : Int) : Pc Tryz.prog 54 [.int .u8 n] (· = .bool (digI n)) := by
  refine pc_intro (ct_intro Tryz.func54 rfl Tryz.ntmps54 hB54 (by simp) fun h ρ w => go (N := 9) Tryz.ntmps54 200 ?_)
  by_cases h1 : n ≥ 48
  · have d1 : decide (n ≥ 48) = true := by simpa using h1
    simp only [go_sem, Nat.reduceAdd, Nat.reduceMul, Nat.reduceSub, Nat.reduceBEq, Nat.reduceLT, Nat.reduceLeDiff, reduceIte, reduceCtorEq, Int.reduceToNat, Int.reduceLE, Int.reduceLT, Int.reduceNe, Int.reduceMul, Int.reduceAdd, Int.reduceSub, Int.reduceDiv, Int.reduceMod, Int.reduceEq, Int.reduceGE, Int.reduceGT, Int.reduceNeg, Int.reduceBEq, Int.reduceBNe, Nat.reduceEqDiff, d1]
    exact aret [2] rfl ⟨by simp [resV, Av.get, digI, h1], rfl⟩
  · have d1 : decide (n ≥ 48) = false := by simpa using h1
    simp only [go_sem, Nat.reduceAdd, Nat.reduceMul, Nat.reduceSub, Nat.reduceBEq, Nat.reduceLT, Nat.reduceLeDiff, reduceIte, reduceCtorEq, Int.reduceToNat, Int.reduceLE, Int.reduceLT, Int.reduceNe, Int.reduceMul, Int.reduceAdd, Int.reduceSub, Int.reduceDiv, Int.reduceMod, Int.reduceEq, Int.reduceGE, Int.reduceGT, Int.reduceNeg, Int.reduceBEq, Int.reduceBNe, Nat.reduceEqDiff, d1]
    exact aret [2] rfl ⟨by simp [resV, Av.get, digI, h1], rfl⟩

theorem isCapital_pc (n : Int) : Pc Tryz.prog 55 [.int .u8 n] (· = .bool (capI n)) := by
  refine pc_intro (ct_intro Tryz.func55 rfl Tryz.ntmps55 hB55 (by simp) fun h ρ w => go (N := 9) Tryz.ntmps55 200 ?_)
  by_cases h1 : n ≥ 65
  · have d1 : decide (n ≥ 65) = true := by simpa using h1
    simp only [go_sem, Nat.reduceAdd, Nat.reduceMul, Nat.reduceSub, Nat.reduceBEq, Nat.reduceLT, Nat.reduceLeDiff, reduceIte, reduceCtorEq, Int.reduceToNat, Int.reduceLE, Int.reduceLT, Int.reduceNe, Int.reduceMul, Int.reduceAdd, Int.reduceSub, Int.reduceDiv, Int.reduceMod, Int.reduceEq, Int.reduceGE, Int.reduceGT, Int.reduceNeg, Int.reduceBEq, Int.reduceBNe, Nat.reduceEqDiff, d1]
    exact aret [2] rfl ⟨by simp [resV, Av.get, capI, h1], rfl⟩
  · have d1 : decide (n ≥ 65) = false := by simpa using h1
    simp only [go_sem, Nat.reduceAdd, Nat.reduceMul, Nat.reduceSub, Nat.reduceBEq, Nat.reduceLT, Nat.reduceLeDiff, reduceIte, reduceCtorEq, Int.reduceToNat, Int.reduceLE, Int.reduceLT, Int.reduceNe, Int.reduceMul, Int.reduceAdd, Int.reduceSub, Int.reduceDiv, Int.reduceMod, Int.reduceEq, Int.reduceGE, Int.reduceGT, Int.reduceNeg, Int.reduceBEq, Int.reduceBNe, Nat.reduceEqDiff, d1]
    exact aret [2] rfl ⟨by simp [resV, Av.get, capI, h1], rfl⟩

def okB (c : UInt8) : Bool := !(decide ((c.toNat : Int) < 32)) && !(decide ((c.toNat : Int) > 126))
def plainL (s : List UInt8) : Bool := s.all okB && (!Lib.hasPrefix s [32] && (!Lib.hasSuffix s [32] && !Lib.contains s [32, 32]))

theorem all_take_succ {α : Type} {p : α → Bool} {s : List α} {i : Nat} (h : i < s.length) (h1 : (s.take i).all p = true) (h2 : p s[i] = true) : (s.take (i + 1)).all p = true := by
  rw [List.take_succ_eq_append_getElem h, List.all_append, h1]
  simpa using h2
theorem all_false_at {α : Type} {p : α → Bool} {s : List α} {i : Nat} (h : i < s.length) (h2 : p s[i] = false) : s.all p = false := by
  rw [List.all_eq_false]
  exact ⟨s[i], List.getElem_mem h, by simp [h2]⟩

theorem plain_pch {S : Std} (hS : LibOk S) (s : List UInt8) (hs : s.length < 1000000) : PcH Tryz.prog S 71 [.str s] (· = .bool (plainL s)) := by
  refine pch_intro (cth_intro Tryz.func71 rfl Tryz.ntmps71 hB71 (by simp) fun h ρ w hg => go (N := 33) Tryz.ntmps71 200 ?_)
  simp only [go_sem, Nat.reduceAdd, Nat.reduceMul, Nat.reduceSub, Nat.reduceBEq, Nat.reduceLT, Nat.reduceLeDiff, reduceIte, reduceCtorEq, Int.reduceToNat, Int.reduceLE, Int.reduceLT, Int.reduceNe, Int.reduceMul, Int.reduceAdd, Int.reduceSub, Int.reduceDiv, Int.reduceMod, Int.reduceEq, Int.reduceGE, Int.reduceGT, Int.reduceNeg, Int.reduceBEq, Int.reduceBNe, Nat.reduceEqDiff]
  refine aloop (ι := Nat) (fun i => s.length - i) (fun i => [(6, .int .i64 i), (5, .int .i64 s.length), (0, .str s)]) (fun _ => []) (fun i => i ≤ s.length ∧ (s.take i).all okB = true) 0 ⟨by omega, by simp⟩ ?_ ?_
  · refine Shift.weak ?_
    simp only [wk, go_sem, Nat.reduceAdd, Nat.reduceMul, Nat.reduceSub, Nat.reduceBEq, Nat.reduceLT, Nat.reduceLeDiff, reduceIte, reduceCtorEq, Int.reduceToNat, Int.reduceLE, Int.reduceLT, Int.reduceNe, Int.reduceMul, Int.reduceAdd, Int.reduceSub, Int.reduceDiv, Int.reduceMod, Int.reduceEq, Int.reduceGE, Int.reduceGT, Int.reduceNeg, Int.reduceBEq, Int.reduceBNe, Nat.reduceEqDiff]
  · rintro i ⟨g1, g2⟩ J hJ
    refine go (N := 33) Tryz.ntmps71 200 ?_
    by_cases hi : (i : Int) < s.length
    · have hil : i < s.length := by omega
      have hgd : s.getD i 0 = s[i] := by simp [List.getD, hil]
      by_cases hc1 : ((s[i].toNat : Int) < 32)
      · have d1 : decide ((s[i].toNat : Int) < 32) = true := by simpa using hc1
        simp only [go_sem, Nat.reduceAdd, Nat.reduceMul, Nat.reduceSub, Nat.reduceBEq, Nat.reduceLT, Nat.reduceLeDiff, reduceIte, reduceCtorEq, Int.reduceToNat, Int.reduceLE, Int.reduceLT, Int.reduceNe, Int.reduceMul, Int.reduceAdd, Int.reduceSub, Int.reduceDiv, Int.reduceMod, Int.reduceEq, Int.reduceGE, Int.reduceGT, Int.reduceNeg, Int.reduceBEq, Int.reduceBNe, Nat.reduceEqDiff, hi, hgd, d1]
        refine ⟨by omega, aret [2] rfl ⟨?_, rfl⟩⟩
        simp [resV, Av.get, plainL, all_false_at hil (p := okB) (by simp [okB]; omega)]
      · have d1 : decide ((s[i].toNat : Int) < 32) = false := by simpa using hc1
        by_cases hc2 : ((s[i].toNat : Int) > 126)
        · have d2 : decide ((s[i].toNat : Int) > 126) = true := by simpa using hc2
          simp only [go_sem, Nat.reduceAdd, Nat.reduceMul, Nat.reduceSub, Nat.reduceBEq, Nat.reduceLT, Nat.reduceLeDiff, reduceIte, reduceCtorEq, Int.reduceToNat, Int.reduceLE, Int.reduceLT, Int.reduceNe, Int.reduceMul, Int.reduceAdd, Int.reduceSub, Int.reduceDiv, Int.reduceMod, Int.reduceEq, Int.reduceGE, Int.reduceGT, Int.reduceNeg, Int.reduceBEq, Int.reduceBNe, Nat.reduceEqDiff, hi, hgd, d1, d2]
          refine ⟨by omega, by omega, aret [2] rfl ⟨?_, rfl⟩⟩
          simp [resV, Av.get, plainL, all_false_at hil (p := okB) (by simp [okB]; omega)]
        · have d2 : decide ((s[i].toNat : Int) > 126) = false := by simpa using hc2
          simp only [go_sem, Nat.reduceAdd, Nat.reduceMul, Nat.reduceSub, Nat.reduceBEq, Nat.reduceLT, Nat.reduceLeDiff, reduceIte, reduceCtorEq, Int.reduceToNat, Int.reduceLE, Int.reduceLT, Int.reduceNe, Int.reduceMul, Int.reduceAdd, Int.reduceSub, Int.reduceDiv, Int.reduceMod, Int.reduceEq, Int.reduceGE, Int.reduceGT, Int.reduceNeg, Int.reduceBEq, Int.reduceBNe, Nat.reduceEqDiff, hi, hgd, d1, d2]
          rw [show (i : Int) + 1 = ((i + 1 : Nat) : Int) by omega]
          repeat refine And.intro (by omega) ?_
          refine ainv (hJ (i + 1) ⟨by omega, all_take_succ hil g2 (by simp [okB]; omega)⟩ (by omega)) (Shift.weak ?_)
          simp only [wk, go_sem, Nat.reduceAdd, Nat.reduceMul, Nat.reduceSub, Nat.reduceBEq, Nat.reduceLT, Nat.reduceLeDiff, reduceIte, reduceCtorEq, Int.reduceToNat, Int.reduceLE, Int.reduceLT, Int.reduceNe, Int.reduceMul, Int.reduceAdd, Int.reduceSub, Int.reduceDiv, Int.reduceMod, Int.reduceEq, Int.reduceGE, Int.reduceGT, Int.reduceNeg, Int.reduceBEq, Int.reduceBNe, Nat.reduceEqDiff]
    · simp only [go_sem, Nat.reduceAdd, Nat.reduceMul, Nat.reduceSub, Nat.reduceBEq, Nat.reduceLT, Nat.reduceLeDiff, reduceIte, reduceCtorEq, Int.reduceToNat, Int.reduceLE, Int.reduceLT, Int.reduceNe, Int.reduceMul, Int.reduceAdd, Int.reduceSub, Int.reduceDiv, Int.reduceMod, Int.reduceEq, Int.reduceGE, Int.reduceGT, Int.reduceNeg, Int.reduceBEq, Int.reduceBNe, Nat.reduceEqDiff, hi]
      have hall : s.all okB = true := by rw [← g2, List.take_of_length_le (by omega)]
      refine pcall1 (hasPrefix_pc s [32]) rfl (N := 33) Tryz.ntmps71 rfl (go (N := 33) Tryz.ntmps71 200 ?_)
      cases e1 : Lib.hasPrefix s [32] with
      | true =>
        simp only [go_sem, Nat.reduceAdd, Nat.reduceMul, Nat.reduceSub, Nat.reduceBEq, Nat.reduceLT, Nat.reduceLeDiff, reduceIte, reduceCtorEq, Int.reduceToNat, Int.reduceLE, Int.reduceLT, Int.reduceNe, Int.reduceMul, Int.reduceAdd, Int.reduceSub, Int.reduceDiv, Int.reduceMod, Int.reduceEq, Int.reduceGE, Int.reduceGT, Int.reduceNeg, Int.reduceBEq, Int.reduceBNe, Nat.reduceEqDiff]
        refine aret [2] rfl ⟨?_, rfl⟩
        simp [resV, Av.get, plainL, e1]
      | false =>
        simp only [go_sem, Nat.reduceAdd, Nat.reduceMul, Nat.reduceSub, Nat.reduceBEq, Nat.reduceLT, Nat.reduceLeDiff, reduceIte, reduceCtorEq, Int.reduceToNat, Int.reduceLE, Int.reduceLT, Int.reduceNe, Int.reduceMul, Int.reduceAdd, Int.reduceSub, Int.reduceDiv, Int.reduceMod, Int.reduceEq, Int.reduceGE, Int.reduceGT, Int.reduceNeg, Int.reduceBEq, Int.reduceBNe, Nat.reduceEqDiff]
        refine pcall1 (hasSuffix_pc s [32] (by omega)) rfl (N := 33) Tryz.ntmps71 rfl (go (N := 33) Tryz.ntmps71 200 ?_)
        cases e2 : Lib.hasSuffix s [32] with
        | true =>
          simp only [go_sem, Nat.reduceAdd, Nat.reduceMul, Nat.reduceSub, Nat.reduceBEq, Nat.reduceLT, Nat.reduceLeDiff, reduceIte, reduceCtorEq, Int.reduceToNat, Int.reduceLE, Int.reduceLT, Int.reduceNe, Int.reduceMul, Int.reduceAdd, Int.reduceSub, Int.reduceDiv, Int.reduceMod, Int.reduceEq, Int.reduceGE, Int.reduceGT, Int.reduceNeg, Int.reduceBEq, Int.reduceBNe, Nat.reduceEqDiff]
          refine aret [2] rfl ⟨?_, rfl⟩
          simp [resV, Av.get, plainL, e2]
        | false =>
          simp only [go_sem, Nat.reduceAdd, Nat.reduceMul, Nat.reduceSub, Nat.reduceBEq, Nat.reduceLT, Nat.reduceLeDiff, reduceIte, reduceCtorEq, Int.reduceToNat, Int.reduceLE, Int.reduceLT, Int.reduceNe, Int.reduceMul, Int.reduceAdd, Int.reduceSub, Int.reduceDiv, Int.reduceMod, Int.reduceEq, Int.reduceGE, Int.reduceGT, Int.reduceNeg, Int.reduceBEq, Int.reduceBNe, Nat.reduceEqDiff]
          refine pcallH1 hg (contains_pch hS s [32, 32] (by omega)) rfl (N := 33) Tryz.ntmps71 rfl (go (N := 33) Tryz.ntmps71 200 ?_)
          simp only [go_sem, Nat.reduceAdd, Nat.reduceMul, Nat.reduceSub, Nat.reduceBEq, Nat.reduceLT, Nat.reduceLeDiff, reduceIte, reduceCtorEq, Int.reduceToNat, Int.reduceLE, Int.reduceLT, Int.reduceNe, Int.reduceMul, Int.reduceAdd, Int.reduceSub, Int.reduceDiv, Int.reduceMod, Int.reduceEq, Int.reduceGE, Int.reduceGT, Int.reduceNeg, Int.reduceBEq, Int.reduceBNe, Nat.reduceEqDiff]
          refine aret [2] rfl ⟨?_, rfl⟩
          simp [resV, Av.get, plainL, e1, e2, hall]

/-- one byte of a proper string -/
def okP (o : List UInt8) (c : UInt8) : Bool := capI c.toNat || (digI c.toNat || (((c.toNat : Int) == 32) || !(decide (Lib.indexByte o c < 0))))
def properL (s : List UInt8) (most : Int) (o : List UInt8) : Bool :=
  !(decide ((s.length : Int) < 1)) && (!(decide ((s.length : Int) > most)) && (capI (s.getD 0 0).toNat && (plainL s && s.all (okP o))))

theorem proper_pch {S : Std} (hS : LibOk S) (s : List UInt8) (most : Int) (o : List UInt8) (hs : s.length < 1000000) : PcH Tryz.prog S 73 [.str s, .int .i64 most, .str o] (· = .bool (properL s most o)) := by
  refine pch_intro (cth_intro Tryz.func73 rfl Tryz.ntmps73 hB73 (by simp) fun h ρ w hg => go (N := 60) Tryz.ntmps73 300 ?_)
  by_cases h1 : (s.length : Int) < 1
  · have d1 : decide ((s.length : Int) < 1) = true := by simpa using h1
    simp only [go_sem, Nat.reduceAdd, Nat.reduceMul, Nat.reduceSub, Nat.reduceBEq, Nat.reduceLT, Nat.reduceLeDiff, reduceIte, reduceCtorEq, Int.reduceToNat, Int.reduceLE, Int.reduceLT, Int.reduceNe, Int.reduceMul, Int.reduceAdd, Int.reduceSub, Int.reduceDiv, Int.reduceMod, Int.reduceEq, Int.reduceGE, Int.reduceGT, Int.reduceNeg, Int.reduceBEq, Int.reduceBNe, Nat.reduceEqDiff, d1]
    exact aret [6] rfl ⟨by simp [resV, Av.get, properL, h1], rfl⟩
  have d1 : decide ((s.length : Int) < 1) = false := by simpa using h1
  by_cases h2 : (s.length : Int) > most
  · have d2 : decide ((s.length : Int) > most) = true := by simpa using h2
    simp only [go_sem, Nat.reduceAdd, Nat.reduceMul, Nat.reduceSub, Nat.reduceBEq, Nat.reduceLT, Nat.reduceLeDiff, reduceIte, reduceCtorEq, Int.reduceToNat, Int.reduceLE, Int.reduceLT, Int.reduceNe, Int.reduceMul, Int.reduceAdd, Int.reduceSub, Int.reduceDiv, Int.reduceMod, Int.reduceEq, Int.reduceGE, Int.reduceGT, Int.reduceNeg, Int.reduceBEq, Int.reduceBNe, Nat.reduceEqDiff, d1, d2]
    exact aret [6] rfl ⟨by simp [resV, Av.get, properL, h2], rfl⟩
  have d2 : decide ((s.length : Int) > most) = false := by simpa using h2
  simp only [go_sem, Nat.reduceAdd, Nat.reduceMul, Nat.reduceSub, Nat.reduceBEq, Nat.reduceLT, Nat.reduceLeDiff, reduceIte, reduceCtorEq, Int.reduceToNat, Int.reduceLE, Int.reduceLT, Int.reduceNe, Int.reduceMul, Int.reduceAdd, Int.reduceSub, Int.reduceDiv, Int.reduceMod, Int.reduceEq, Int.reduceGE, Int.reduceGT, Int.reduceNeg, Int.reduceBEq, Int.reduceBNe, Nat.reduceEqDiff, d1, d2]
  have hpos : 0 < s.length := by omega
  refine ⟨by omega, ?_⟩
  refine pcall1 (isCapital_pc _) rfl (N := 60) Tryz.ntmps73 rfl (go (N := 60) Tryz.ntmps73 300 ?_)
  cases e1 : capI (s.getD 0 0).toNat with
  | false =>
    simp only [go_sem, Nat.reduceAdd, Nat.reduceMul, Nat.reduceSub, Nat.reduceBEq, Nat.reduceLT, Nat.reduceLeDiff, reduceIte, reduceCtorEq, Int.reduceToNat, Int.reduceLE, Int.reduceLT, Int.reduceNe, Int.reduceMul, Int.reduceAdd, Int.reduceSub, Int.reduceDiv, Int.reduceMod, Int.reduceEq, Int.reduceGE, Int.reduceGT, Int.reduceNeg, Int.reduceBEq, Int.reduceBNe, Nat.reduceEqDiff]
    exact aret [6] rfl ⟨by simp only [resV, Av.get, properL, e1]; simp, rfl⟩
  | true =>
  simp only [go_sem, Nat.reduceAdd, Nat.reduceMul, Nat.reduceSub, Nat.reduceBEq, Nat.reduceLT, Nat.reduceLeDiff, reduceIte, reduceCtorEq, Int.reduceToNat, Int.reduceLE, Int.reduceLT, Int.reduceNe, Int.reduceMul, Int.reduceAdd, Int.reduceSub, Int.reduceDiv, Int.reduceMod, Int.reduceEq, Int.reduceGE, Int.reduceGT, Int.reduceNeg, Int.reduceBEq, Int.reduceBNe, Nat.reduceEqDiff]
  refine pcallH1 hg (plain_pch hS s hs) rfl (N := 60) Tryz.ntmps73 rfl (go (N := 60) Tryz.ntmps73 300 ?_)
  cases e2 : plainL s with
  | false =>
    simp only [go_sem, Nat.reduceAdd, Nat.reduceMul, Nat.reduceSub, Nat.reduceBEq, Nat.reduceLT, Nat.reduceLeDiff, reduceIte, reduceCtorEq, Int.reduceToNat, Int.reduceLE, Int.reduceLT, Int.reduceNe, Int.reduceMul, Int.reduceAdd, Int.reduceSub, Int.reduceDiv, Int.reduceMod, Int.reduceEq, Int.reduceGE, Int.reduceGT, Int.reduceNeg, Int.reduceBEq, Int.reduceBNe, Nat.reduceEqDiff]
    exact aret [6] rfl ⟨by simp only [resV, Av.get, properL, e2]; simp, rfl⟩
  | true =>
  simp only [go_sem, Nat.reduceAdd, Nat.reduceMul, Nat.reduceSub, Nat.reduceBEq, Nat.reduceLT, Nat.reduceLeDiff, reduceIte, reduceCtorEq, Int.reduceToNat, Int.reduceLE, Int.reduceLT, Int.reduceNe, Int.reduceMul, Int.reduceAdd, Int.reduceSub, Int.reduceDiv, Int.reduceMod, Int.reduceEq, Int.reduceGE, Int.reduceGT, Int.reduceNeg, Int.reduceBEq, Int.reduceBNe, Nat.reduceEqDiff]
  have hval : properL s most o = s.all (okP o) := by simp only [properL, d1, d2, e1, e2]; simp
  rw [hval]
  refine aloop (ι := Nat) (fun i => s.length - i) (fun i => [(30, .int .i64 i), (29, .int .i64 s.length), (0, .str s), (2, .str o)]) (fun _ => []) (fun i => i ≤ s.length ∧ (s.take i).all (okP o) = true) 0 ⟨by omega, by simp⟩ ?_ ?_
  · refine Shift.weak ?_
    simp only [wk, go_sem, Nat.reduceAdd, Nat.reduceMul, Nat.reduceSub, Nat.reduceBEq, Nat.reduceLT, Nat.reduceLeDiff, reduceIte, reduceCtorEq, Int.reduceToNat, Int.reduceLE, Int.reduceLT, Int.reduceNe, Int.reduceMul, Int.reduceAdd, Int.reduceSub, Int.reduceDiv, Int.reduceMod, Int.reduceEq, Int.reduceGE, Int.reduceGT, Int.reduceNeg, Int.reduceBEq, Int.reduceBNe, Nat.reduceEqDiff]
  · rintro i ⟨g1, g2⟩ J hJ
    refine go (N := 60) Tryz.ntmps73 300 ?_
    by_cases hi : (i : Int) < s.length
    · have hil : i < s.length := by omega
      have hgd : s.getD i 0 = s[i] := by simp [List.getD, hil]
      simp only [go_sem, Nat.reduceAdd, Nat.reduceMul, Nat.reduceSub, Nat.reduceBEq, Nat.reduceLT, Nat.reduceLeDiff, reduceIte, reduceCtorEq, Int.reduceToNat, Int.reduceLE, Int.reduceLT, Int.reduceNe, Int.reduceMul, Int.reduceAdd, Int.reduceSub, Int.reduceDiv, Int.reduceMod, Int.reduceEq, Int.reduceGE, Int.reduceGT, Int.reduceNeg, Int.reduceBEq, Int.reduceBNe, Nat.reduceEqDiff, hi, hgd]
      refine ⟨by omega, ?_⟩
      refine pcall1 (isCapital_pc _) rfl (N := 60) Tryz.ntmps73 rfl (go (N := 60) Tryz.ntmps73 300 ?_)
      cases c1 : capI (s[i].toNat : Int) with
      | true =>
        simp only [go_sem, Nat.reduceAdd, Nat.reduceMul, Nat.reduceSub, Nat.reduceBEq, Nat.reduceLT, Nat.reduceLeDiff, reduceIte, reduceCtorEq, Int.reduceToNat, Int.reduceLE, Int.reduceLT, Int.reduceNe, Int.reduceMul, Int.reduceAdd, Int.reduceSub, Int.reduceDiv, Int.reduceMod, Int.reduceEq, Int.reduceGE, Int.reduceGT, Int.reduceNeg, Int.reduceBEq, Int.reduceBNe, Nat.reduceEqDiff]
        rw [show (i : Int) + 1 = ((i + 1 : Nat) : Int) by omega]
        repeat refine And.intro (by omega) ?_
        refine ainv (hJ (i + 1) ⟨by omega, all_take_succ hil g2 (by simp only [okP, c1]; rfl)⟩ (by omega)) (Shift.weak ?_)
        simp only [wk, go_sem, Nat.reduceAdd, Nat.reduceMul, Nat.reduceSub, Nat.reduceBEq, Nat.reduceLT, Nat.reduceLeDiff, reduceIte, reduceCtorEq, Int.reduceToNat, Int.reduceLE, Int.reduceLT, Int.reduceNe, Int.reduceMul, Int.reduceAdd, Int.reduceSub, Int.reduceDiv, Int.reduceMod, Int.reduceEq, Int.reduceGE, Int.reduceGT, Int.reduceNeg, Int.reduceBEq, Int.reduceBNe, Nat.reduceEqDiff]
      | false =>
        simp only [go_sem, Nat.reduceAdd, Nat.reduceMul, Nat.reduceSub, Nat.reduceBEq, Nat.reduceLT, Nat.reduceLeDiff, reduceIte, reduceCtorEq, Int.reduceToNat, Int.reduceLE, Int.reduceLT, Int.reduceNe, Int.reduceMul, Int.reduceAdd, Int.reduceSub, Int.reduceDiv, Int.reduceMod, Int.reduceEq, Int.reduceGE, Int.reduceGT, Int.reduceNeg, Int.reduceBEq, Int.reduceBNe, Nat.reduceEqDiff, hi, hgd]
        refine ⟨by omega, ?_⟩
        refine pcall1 (isDigit_pc _) rfl (N := 60) Tryz.ntmps73 rfl (go (N := 60) Tryz.ntmps73 300 ?_)
        cases c2 : digI (s[i].toNat : Int) with
        | true =>
          simp only [go_sem, Nat.reduceAdd, Nat.reduceMul, Nat.reduceSub, Nat.reduceBEq, Nat.reduceLT, Nat.reduceLeDiff, reduceIte, reduceCtorEq, Int.reduceToNat, Int.reduceLE, Int.reduceLT, Int.reduceNe, Int.reduceMul, Int.reduceAdd, Int.reduceSub, Int.reduceDiv, Int.reduceMod, Int.reduceEq, Int.reduceGE, Int.reduceGT, Int.reduceNeg, Int.reduceBEq, Int.reduceBNe, Nat.reduceEqDiff]
          rw [show (i : Int) + 1 = ((i + 1 : Nat) : Int) by omega]
          repeat refine And.intro (by omega) ?_
          refine ainv (hJ (i + 1) ⟨by omega, all_take_succ hil g2 (by simp only [okP, c1, c2]; rfl)⟩ (by omega)) (Shift.weak ?_)
          simp only [wk, go_sem, Nat.reduceAdd, Nat.reduceMul, Nat.reduceSub, Nat.reduceBEq, Nat.reduceLT, Nat.reduceLeDiff, reduceIte, reduceCtorEq, Int.reduceToNat, Int.reduceLE, Int.reduceLT, Int.reduceNe, Int.reduceMul, Int.reduceAdd, Int.reduceSub, Int.reduceDiv, Int.reduceMod, Int.reduceEq, Int.reduceGE, Int.reduceGT, Int.reduceNeg, Int.reduceBEq, Int.reduceBNe, Nat.reduceEqDiff]
        | false =>
          cases c3 : ((s[i].toNat : Int) == 32) with
          | true =>
            have c3' : ((s[i].toNat : Int) != 32) = false := by simpa using c3
            simp only [go_sem, Nat.reduceAdd, Nat.reduceMul, Nat.reduceSub, Nat.reduceBEq, Nat.reduceLT, Nat.reduceLeDiff, reduceIte, reduceCtorEq, Int.reduceToNat, Int.reduceLE, Int.reduceLT, Int.reduceNe, Int.reduceMul, Int.reduceAdd, Int.reduceSub, Int.reduceDiv, Int.reduceMod, Int.reduceEq, Int.reduceGE, Int.reduceGT, Int.reduceNeg, Int.reduceBEq, Int.reduceBNe, Nat.reduceEqDiff, hi, hgd, c3']
            rw [show (i : Int) + 1 = ((i + 1 : Nat) : Int) by omega]
            repeat refine And.intro (by omega) ?_
            refine ainv (hJ (i + 1) ⟨by omega, all_take_succ hil g2 (by simp only [okP, c1, c2, c3]; rfl)⟩ (by omega)) (Shift.weak ?_)
            simp only [wk, go_sem, Nat.reduceAdd, Nat.reduceMul, Nat.reduceSub, Nat.reduceBEq, Nat.reduceLT, Nat.reduceLeDiff, reduceIte, reduceCtorEq, Int.reduceToNat, Int.reduceLE, Int.reduceLT, Int.reduceNe, Int.reduceMul, Int.reduceAdd, Int.reduceSub, Int.reduceDiv, Int.reduceMod, Int.reduceEq, Int.reduceGE, Int.reduceGT, Int.reduceNeg, Int.reduceBEq, Int.reduceBNe, Nat.reduceEqDiff]
          | false =>
            have c3' : ((s[i].toNat : Int) != 32) = true := by simpa using c3
            simp only [go_sem, Nat.reduceAdd, Nat.reduceMul, Nat.reduceSub, Nat.reduceBEq, Nat.reduceLT, Nat.reduceLeDiff, reduceIte, reduceCtorEq, Int.reduceToNat, Int.reduceLE, Int.reduceLT, Int.reduceNe, Int.reduceMul, Int.reduceAdd, Int.reduceSub, Int.reduceDiv, Int.reduceMod, Int.reduceEq, Int.reduceGE, Int.reduceGT, Int.reduceNeg, Int.reduceBEq, Int.reduceBNe, Nat.reduceEqDiff, hi, hgd, c3']
            refine ⟨by omega, by omega, ?_⟩
            refine pcall1 (indexByte_pc o (s[i].toNat : Int)) rfl (N := 60) Tryz.ntmps73 rfl (go (N := 60) Tryz.ntmps73 300 ?_)
            have hb : ((s[i].toNat : Int)).toNat.toUInt8 = s[i] := by simp
            rw [hb]
            cases c4 : decide (Lib.indexByte o s[i] < 0) with
            | false =>
              simp only [go_sem, Nat.reduceAdd, Nat.reduceMul, Nat.reduceSub, Nat.reduceBEq, Nat.reduceLT, Nat.reduceLeDiff, reduceIte, reduceCtorEq, Int.reduceToNat, Int.reduceLE, Int.reduceLT, Int.reduceNe, Int.reduceMul, Int.reduceAdd, Int.reduceSub, Int.reduceDiv, Int.reduceMod, Int.reduceEq, Int.reduceGE, Int.reduceGT, Int.reduceNeg, Int.reduceBEq, Int.reduceBNe, Nat.reduceEqDiff, c4]
              rw [show (i : Int) + 1 = ((i + 1 : Nat) : Int) by omega]
              repeat refine And.intro (by omega) ?_
              refine ainv (hJ (i + 1) ⟨by omega, all_take_succ hil g2 (by simp only [okP, c1, c2, c3, c4]; rfl)⟩ (by omega)) (Shift.weak ?_)
              simp only [wk, go_sem, Nat.reduceAdd, Nat.reduceMul, Nat.reduceSub, Nat.reduceBEq, Nat.reduceLT, Nat.reduceLeDiff, reduceIte, reduceCtorEq, Int.reduceToNat, Int.reduceLE, Int.reduceLT, Int.reduceNe, Int.reduceMul, Int.reduceAdd, Int.reduceSub, Int.reduceDiv, Int.reduceMod, Int.reduceEq, Int.reduceGE, Int.reduceGT, Int.reduceNeg, Int.reduceBEq, Int.reduceBNe, Nat.reduceEqDiff]
            | true =>
              simp only [go_sem, Nat.reduceAdd, Nat.reduceMul, Nat.reduceSub, Nat.reduceBEq, Nat.reduceLT, Nat.reduceLeDiff, reduceIte, reduceCtorEq, Int.reduceToNat, Int.reduceLE, Int.reduceLT, Int.reduceNe, Int.reduceMul, Int.reduceAdd, Int.reduceSub, Int.reduceDiv, Int.reduceMod, Int.reduceEq, Int.reduceGE, Int.reduceGT, Int.reduceNeg, Int.reduceBEq, Int.reduceBNe, Nat.reduceEqDiff, c4]
              refine aret [6] rfl ⟨?_, rfl⟩
              simp [resV, Av.get, all_false_at hil (p := okP o) (by simp only [okP, c1, c2, c3, c4]; rfl)]
    · simp only [go_sem, Nat.reduceAdd, Nat.reduceMul, Nat.reduceSub, Nat.reduceBEq, Nat.reduceLT, Nat.reduceLeDiff, reduceIte, reduceCtorEq, Int.reduceToNat, Int.reduceLE, Int.reduceLT, Int.reduceNe, Int.reduceMul, Int.reduceAdd, Int.reduceSub, Int.reduceDiv, Int.reduceMod, Int.reduceEq, Int.reduceGE, Int.reduceGT, Int.reduceNeg, Int.reduceBEq, Int.reduceBNe, Nat.reduceEqDiff, hi]
      have hall : s.all (okP o) = true := by rw [← g2, List.take_of_length_le (by omega)]
      exact aret [6] rfl ⟨by simp [resV, Av.get, hall], rfl⟩

def isSetL (s : List UInt8) : Bool := properL s 60 [39, 46, 45, 47] && (!Lib.contains s [32, 45, 32] && !Lib.hasSuffix s [32, 45])

theorem isSet_pch {S : Std} (hS : LibOk S) (s : List UInt8) (hs : s.length < 1000000) : PcH Tryz.prog S 116 [.str s] (· = .bool (isSetL s)) := by
  refine pch_intro (cth_intro Tryz.func116 rfl Tryz.ntmps116 hB116 (by simp) fun h ρ w hg => go (N := 15) Tryz.ntmps116 300 ?_)
  simp only [go_sem, Nat.reduceAdd, Nat.reduceMul, Nat.reduceSub, Nat.reduceBEq, Nat.reduceLT, Nat.reduceLeDiff, reduceIte, reduceCtorEq, Int.reduceToNat, Int.reduceLE, Int.reduceLT, Int.reduceNe, Int.reduceMul, Int.reduceAdd, Int.reduceSub, Int.reduceDiv, Int.reduceMod, Int.reduceEq, Int.reduceGE, Int.reduceGT, Int.reduceNeg, Int.reduceBEq, Int.reduceBNe, Nat.reduceEqDiff]
  refine pcallH1 hg (proper_pch hS s 60 [39, 46, 45, 47] hs) rfl (N := 15) Tryz.ntmps116 rfl (go (N := 15) Tryz.ntmps116 300 ?_)
  cases e1 : properL s 60 [39, 46, 45, 47] with
  | false =>
    simp only [go_sem, Nat.reduceAdd, Nat.reduceMul, Nat.reduceSub, Nat.reduceBEq, Nat.reduceLT, Nat.reduceLeDiff, reduceIte, reduceCtorEq, Int.reduceToNat, Int.reduceLE, Int.reduceLT, Int.reduceNe, Int.reduceMul, Int.reduceAdd, Int.reduceSub, Int.reduceDiv, Int.reduceMod, Int.reduceEq, Int.reduceGE, Int.reduceGT, Int.reduceNeg, Int.reduceBEq, Int.reduceBNe, Nat.reduceEqDiff]
    exact aret [2] rfl ⟨by simp [resV, Av.get, isSetL, e1], rfl⟩
  | true =>
    simp only [go_sem, Nat.reduceAdd, Nat.reduceMul, Nat.reduceSub, Nat.reduceBEq, Nat.reduceLT, Nat.reduceLeDiff, reduceIte, reduceCtorEq, Int.reduceToNat, Int.reduceLE, Int.reduceLT, Int.reduceNe, Int.reduceMul, Int.reduceAdd, Int.reduceSub, Int.reduceDiv, Int.reduceMod, Int.reduceEq, Int.reduceGE, Int.reduceGT, Int.reduceNeg, Int.reduceBEq, Int.reduceBNe, Nat.reduceEqDiff]
    refine pcallH1 hg (contains_pch hS s [32, 45, 32] (by omega)) rfl (N := 15) Tryz.ntmps116 rfl (go (N := 15) Tryz.ntmps116 300 ?_)
    cases e2 : Lib.contains s [32, 45, 32] with
    | true =>
      simp only [go_sem, Nat.reduceAdd, Nat.reduceMul, Nat.reduceSub, Nat.reduceBEq, Nat.reduceLT, Nat.reduceLeDiff, reduceIte, reduceCtorEq, Int.reduceToNat, Int.reduceLE, Int.reduceLT, Int.reduceNe, Int.reduceMul, Int.reduceAdd, Int.reduceSub, Int.reduceDiv, Int.reduceMod, Int.reduceEq, Int.reduceGE, Int.reduceGT, Int.reduceNeg, Int.reduceBEq, Int.reduceBNe, Nat.reduceEqDiff]
      exact aret [2] rfl ⟨by simp [resV, Av.get, isSetL, e2], rfl⟩
    | false =>
      simp only [go_sem, Nat.reduceAdd, Nat.reduceMul, Nat.reduceSub, Nat.reduceBEq, Nat.reduceLT, Nat.reduceLeDiff, reduceIte, reduceCtorEq, Int.reduceToNat, Int.reduceLE, Int.reduceLT, Int.reduceNe, Int.reduceMul, Int.reduceAdd, Int.reduceSub, Int.reduceDiv, Int.reduceMod, Int.reduceEq, Int.reduceGE, Int.reduceGT, Int.reduceNeg, Int.reduceBEq, Int.reduceBNe, Nat.reduceEqDiff]
      refine pcall1 (hasSuffix_pc s [32, 45] (by omega)) rfl (N := 15) Tryz.ntmps116 rfl (go (N := 15) Tryz.ntmps116 300 ?_)
      simp only [go_sem, Nat.reduceAdd, Nat.reduceMul, Nat.reduceSub, Nat.reduceBEq, Nat.reduceLT, Nat.reduceLeDiff, reduceIte, reduceCtorEq, Int.reduceToNat, Int.reduceLE, Int.reduceLT, Int.reduceNe, Int.reduceMul, Int.reduceAdd, Int.reduceSub, Int.reduceDiv, Int.reduceMod, Int.reduceEq, Int.reduceGE, Int.reduceGT, Int.reduceNeg, Int.reduceBEq, Int.reduceBNe, Nat.reduceEqDiff]
      exact aret [2] rfl ⟨by simp [resV, Av.get, isSetL, e1, e2], rfl⟩
end Go.Proofs.YtpjbbpilgfihbaaGreatDoor
/- The library contracts laid at this seat, in the plain words that a tool of the kit has written. -/
namespace Go.Proofs
open Go.Shelf
def Tryz.lays150_ren : Go.Shelf.Ren := ⟨fun | 150 => 152 | 153 => 175 | 152 => 173 | 226 => 195 | 227 => 110 | 228 => 148 | 137 => 119 | 119 => 194 | 224 => 189 | 225 => 188 | 217 => 153 | 266 => 176 | n => n, fun | 9 => 9 | 4 => 4 | 3 => 3 | 5 => 5 | 21 => 21 | 117 => 145 | 116 => 144 | 0 => 0 | 46 => 177 | 124 => 148 | n => n, fun | n => n⟩
theorem Tryz.lays150 : Go.Proofs.Lays.n150 Tryz.prog Tryz.lays150_ren := {
  mixed := by kernel_rfl
  f119 := Tryz.func194.trans (congrArg some (by kernel_rfl))
  f137 := Tryz.func119.trans (congrArg some (by kernel_rfl))
  f150 := Tryz.func152.trans (congrArg some (by kernel_rfl))
  f152 := Tryz.func173.trans (congrArg some (by kernel_rfl))
  f153 := Tryz.func175.trans (congrArg some (by kernel_rfl))
  f217 := Tryz.func153.trans (congrArg some (by kernel_rfl))
  f224 := Tryz.func189.trans (congrArg some (by kernel_rfl))
  f225 := Tryz.func188.trans (congrArg some (by kernel_rfl))
  f226 := Tryz.func195.trans (congrArg some (by kernel_rfl))
  f227 := Tryz.func110.trans (congrArg some (by kernel_rfl))
  f228 := Tryz.func148.trans (congrArg some (by kernel_rfl))
  f266 := Tryz.func176.trans (congrArg some (by kernel_rfl))
  t0 := Tryz.underlying0
  a0 := Tryz.isAgg0
  z0 := Tryz.sizeOf0
  v0 := Tryz.zeroValue0
  t3 := Tryz.underlying3
  a3 := Tryz.isAgg3
  z3 := Tryz.sizeOf3
  v3 := Tryz.zeroValue3
  t4 := Tryz.underlying4
  a4 := Tryz.isAgg4
  z4 := Tryz.sizeOf4
  v4 := Tryz.zeroValue4
  t5 := Tryz.underlying5
  a5 := Tryz.isAgg5
  z5 := Tryz.sizeOf5
  v5 := Tryz.zeroValue5
  t9 := Tryz.underlying9
  a9 := Tryz.isAgg9
  z9 := Tryz.sizeOf9
  v9 := Tryz.zeroValue9
  t21 := Tryz.underlying21
  a21 := Tryz.isAgg21
  z21 := Tryz.sizeOf21
  v21 := Tryz.zeroValue21
  t46 := Tryz.underlying177
  a46 := Tryz.isAgg177
  z46 := Tryz.sizeOf177
  v46 := Tryz.zeroValue177
  t116 := Tryz.underlying144
  a116 := Tryz.isAgg144
  z116 := Tryz.sizeOf144
  t117 := Tryz.underlying145
  a117 := Tryz.isAgg145
  z117 := Tryz.sizeOf145
  v117 := Tryz.zeroValue145
  t124 := Tryz.underlying148
  a124 := Tryz.isAgg148
  z124 := Tryz.sizeOf148
  v124 := Tryz.zeroValue148 }
def Tryz.lays160_ren : Go.Shelf.Ren := ⟨fun | 160 => 70 | 232 => 109 | 231 => 108 | 227 => 110 | 234 => 112 | 233 => 111 | 236 => 114 | 235 => 113 | 228 => 148 | 271 => 151 | 151 => 150 | 197 => 149 | 120 => 174 | 152 => 173 | 260 => 172 | 137 => 119 | 119 => 194 | 224 => 189 | 225 => 188 | 217 => 153 | 266 => 176 | n => n, fun | 9 => 9 | 4 => 4 | 3 => 3 | 5 => 5 | 117 => 145 | 116 => 144 | 0 => 0 | 124 => 148 | 21 => 21 | 105 => 164 | 46 => 177 | 119 => 208 | 139 => 211 | 138 => 210 | n => n, fun | 3 => 3 | 4 => 4 | n => n⟩
theorem Tryz.lays160 : Go.Proofs.Lays.n160 Tryz.prog Tryz.lays160_ren := {
  mixed := by kernel_rfl
  f119 := Tryz.func194.trans (congrArg some (by kernel_rfl))
  f120 := Tryz.func174.trans (congrArg some (by kernel_rfl))
  f137 := Tryz.func119.trans (congrArg some (by kernel_rfl))
  f151 := Tryz.func150.trans (congrArg some (by kernel_rfl))
  f152 := Tryz.func173.trans (congrArg some (by kernel_rfl))
  f160 := Tryz.func70.trans (congrArg some (by kernel_rfl))
  f197 := Tryz.func149.trans (congrArg some (by kernel_rfl))
  f217 := Tryz.func153.trans (congrArg some (by kernel_rfl))
  f224 := Tryz.func189.trans (congrArg some (by kernel_rfl))
  f225 := Tryz.func188.trans (congrArg some (by kernel_rfl))
  f227 := Tryz.func110.trans (congrArg some (by kernel_rfl))
  f228 := Tryz.func148.trans (congrArg some (by kernel_rfl))
  f231 := Tryz.func108.trans (congrArg some (by kernel_rfl))
  f232 := Tryz.func109.trans (congrArg some (by kernel_rfl))
  f233 := Tryz.func111.trans (congrArg some (by kernel_rfl))
  f234 := Tryz.func112.trans (congrArg some (by kernel_rfl))
  f235 := Tryz.func113.trans (congrArg some (by kernel_rfl))
  f236 := Tryz.func114.trans (congrArg some (by kernel_rfl))
  f260 := Tryz.func172.trans (congrArg some (by kernel_rfl))
  f266 := Tryz.func176.trans (congrArg some (by kernel_rfl))
  f271 := Tryz.func151.trans (congrArg some (by kernel_rfl))
  t0 := Tryz.underlying0
  a0 := Tryz.isAgg0
  z0 := Tryz.sizeOf0
  v0 := Tryz.zeroValue0
  t3 := Tryz.underlying3
  a3 := Tryz.isAgg3
  z3 := Tryz.sizeOf3
  v3 := Tryz.zeroValue3
  t4 := Tryz.underlying4
  a4 := Tryz.isAgg4
  z4 := Tryz.sizeOf4
  v4 := Tryz.zeroValue4
  t5 := Tryz.underlying5
  a5 := Tryz.isAgg5
  z5 := Tryz.sizeOf5
  v5 := Tryz.zeroValue5
  t9 := Tryz.underlying9
  a9 := Tryz.isAgg9
  z9 := Tryz.sizeOf9
  v9 := Tryz.zeroValue9
  t21 := Tryz.underlying21
  a21 := Tryz.isAgg21
  z21 := Tryz.sizeOf21
  v21 := Tryz.zeroValue21
  t46 := Tryz.underlying177
  a46 := Tryz.isAgg177
  z46 := Tryz.sizeOf177
  v46 := Tryz.zeroValue177
  t105 := Tryz.underlying164
  a105 := Tryz.isAgg164
  z105 := Tryz.sizeOf164
  v105 := Tryz.zeroValue164
  t116 := Tryz.underlying144
  a116 := Tryz.isAgg144
  z116 := Tryz.sizeOf144
  t117 := Tryz.underlying145
  a117 := Tryz.isAgg145
  z117 := Tryz.sizeOf145
  v117 := Tryz.zeroValue145
  t119 := Tryz.underlying208
  a119 := Tryz.isAgg208
  z119 := Tryz.sizeOf208
  t124 := Tryz.underlying148
  a124 := Tryz.isAgg148
  z124 := Tryz.sizeOf148
  v124 := Tryz.zeroValue148
  t138 := Tryz.underlying210
  a138 := Tryz.isAgg210
  z138 := Tryz.sizeOf210
  v138 := Tryz.zeroValue210
  t139 := Tryz.underlying211
  a139 := Tryz.isAgg211
  z139 := Tryz.sizeOf211
  v139 := Tryz.zeroValue211
  g3 := by kernel_rfl
  g4 := by kernel_rfl }
def Tryz.lays161_ren : Go.Shelf.Ren := ⟨fun | 161 => 143 | 231 => 108 | 227 => 110 | 233 => 111 | 235 => 113 | 228 => 148 | 197 => 149 | 151 => 150 | 260 => 172 | 152 => 173 | 137 => 119 | 119 => 194 | 224 => 189 | 225 => 188 | 217 => 153 | 266 => 176 | n => n, fun | 9 => 9 | 4 => 4 | 3 => 3 | 5 => 5 | 117 => 145 | 116 => 144 | 0 => 0 | 124 => 148 | 105 => 164 | 21 => 21 | 119 => 208 | 46 => 177 | 139 => 211 | 138 => 210 | n => n, fun | 3 => 3 | 4 => 4 | n => n⟩
theorem Tryz.lays161 : Go.Proofs.Lays.n161 Tryz.prog Tryz.lays161_ren := {
  mixed := by kernel_rfl
  f119 := Tryz.func194.trans (congrArg some (by kernel_rfl))
  f137 := Tryz.func119.trans (congrArg some (by kernel_rfl))
  f151 := Tryz.func150.trans (congrArg some (by kernel_rfl))
  f152 := Tryz.func173.trans (congrArg some (by kernel_rfl))
  f161 := Tryz.func143.trans (congrArg some (by kernel_rfl))
  f197 := Tryz.func149.trans (congrArg some (by kernel_rfl))
  f217 := Tryz.func153.trans (congrArg some (by kernel_rfl))
  f224 := Tryz.func189.trans (congrArg some (by kernel_rfl))
  f225 := Tryz.func188.trans (congrArg some (by kernel_rfl))
  f227 := Tryz.func110.trans (congrArg some (by kernel_rfl))
  f228 := Tryz.func148.trans (congrArg some (by kernel_rfl))
  f231 := Tryz.func108.trans (congrArg some (by kernel_rfl))
  f233 := Tryz.func111.trans (congrArg some (by kernel_rfl))
  f235 := Tryz.func113.trans (congrArg some (by kernel_rfl))
  f260 := Tryz.func172.trans (congrArg some (by kernel_rfl))
  f266 := Tryz.func176.trans (congrArg some (by kernel_rfl))
  t0 := Tryz.underlying0
  a0 := Tryz.isAgg0
  z0 := Tryz.sizeOf0
  v0 := Tryz.zeroValue0
  t3 := Tryz.underlying3
  a3 := Tryz.isAgg3
  z3 := Tryz.sizeOf3
  v3 := Tryz.zeroValue3
  t4 := Tryz.underlying4
  a4 := Tryz.isAgg4
  z4 := Tryz.sizeOf4
  v4 := Tryz.zeroValue4
  t5 := Tryz.underlying5
  a5 := Tryz.isAgg5
  z5 := Tryz.sizeOf5
  v5 := Tryz.zeroValue5
  t9 := Tryz.underlying9
  a9 := Tryz.isAgg9
  z9 := Tryz.sizeOf9
  v9 := Tryz.zeroValue9
  t21 := Tryz.underlying21
  a21 := Tryz.isAgg21
  z21 := Tryz.sizeOf21
  v21 := Tryz.zeroValue21
  t46 := Tryz.underlying177
  a46 := Tryz.isAgg177
  z46 := Tryz.sizeOf177
  v46 := Tryz.zeroValue177
  t105 := Tryz.underlying164
  a105 := Tryz.isAgg164
  z105 := Tryz.sizeOf164
  v105 := Tryz.zeroValue164
  t116 := Tryz.underlying144
  a116 := Tryz.isAgg144
  z116 := Tryz.sizeOf144
  t117 := Tryz.underlying145
  a117 := Tryz.isAgg145
  z117 := Tryz.sizeOf145
  v117 := Tryz.zeroValue145
  t119 := Tryz.underlying208
  a119 := Tryz.isAgg208
  z119 := Tryz.sizeOf208
  t124 := Tryz.underlying148
  a124 := Tryz.isAgg148
  z124 := Tryz.sizeOf148
  v124 := Tryz.zeroValue148
  t138 := Tryz.underlying210
  a138 := Tryz.isAgg210
  z138 := Tryz.sizeOf210
  v138 := Tryz.zeroValue210
  t139 := Tryz.underlying211
  a139 := Tryz.isAgg211
  z139 := Tryz.sizeOf211
  v139 := Tryz.zeroValue211
  g3 := by kernel_rfl
  g4 := by kernel_rfl }
def Tryz.laysC172_ren : Go.Shelf.Ren := ⟨fun | 172 => 88 | 244 => 130 | 245 => 131 | 247 => 157 | 279 => 158 | 280 => 159 | 281 => 160 | 282 => 161 | 287 => 178 | 316 => 179 | 171 => 93 | 205 => 180 | 321 => 197 | 322 => 198 | 243 => 134 | 246 => 165 | 283 => 184 | 284 => 185 | 285 => 186 | 286 => 187 | 129 => 201 | 317 => 200 | 318 => 202 | 319 => 203 | 320 => 204 | 337 => 208 | 338 => 209 | n => n, fun | 9 => 9 | 3 => 3 | 75 => 120 | 76 => 121 | 4 => 4 | 5 => 5 | 167 => 171 | 37 => 116 | 0 => 0 | 85 => 172 | 2 => 2 | 168 => 174 | 53 => 191 | 175 => 192 | 46 => 177 | 210 => 196 | 127 => 153 | 145 => 217 | 143 => 215 | 21 => 21 | 171 => 203 | 173 => 206 | 212 => 220 | 51 => 198 | 20 => 20 | 213 => 221 | 232 => 225 | 233 => 226 | 80 => 26 | n => n, fun | 15 => 1 | 16 => 2 | 17 => 5 | 18 => 6 | 19 => 7 | n => n⟩
theorem Tryz.laysC172 : Go.Proofs.LaysC.n172 Tryz.prog Tryz.laysC172_ren := {
  mixed := by kernel_rfl
  f129 := Tryz.func201.trans (congrArg some (by kernel_rfl))
  f171 := Tryz.func93.trans (congrArg some (by kernel_rfl))
  f172 := Tryz.func88.trans (congrArg some (by kernel_rfl))
  f205 := Tryz.func180.trans (congrArg some (by kernel_rfl))
  f243 := Tryz.func134.trans (congrArg some (by kernel_rfl))
  f244 := Tryz.func130.trans (congrArg some (by kernel_rfl))
  f245 := Tryz.func131.trans (congrArg some (by kernel_rfl))
  f246 := Tryz.func165.trans (congrArg some (by kernel_rfl))
  f247 := Tryz.func157.trans (congrArg some (by kernel_rfl))
  f279 := Tryz.func158.trans (congrArg some (by kernel_rfl))
  f280 := Tryz.func159.trans (congrArg some (by kernel_rfl))
  f281 := Tryz.func160.trans (congrArg some (by kernel_rfl))
  f282 := Tryz.func161.trans (congrArg some (by kernel_rfl))
  f283 := Tryz.func184.trans (congrArg some (by kernel_rfl))
  f284 := Tryz.func185.trans (congrArg some (by kernel_rfl))
  f285 := Tryz.func186.trans (congrArg some (by kernel_rfl))
  f286 := Tryz.func187.trans (congrArg some (by kernel_rfl))
  f287 := Tryz.func178.trans (congrArg some (by kernel_rfl))
  f316 := Tryz.func179.trans (congrArg some (by kernel_rfl))
  f317 := Tryz.func200.trans (congrArg some (by kernel_rfl))
  f318 := Tryz.func202.trans (congrArg some (by kernel_rfl))
  f319 := Tryz.func203.trans (congrArg some (by kernel_rfl))
  f320 := Tryz.func204.trans (congrArg some (by kernel_rfl))
  f321 := Tryz.func197.trans (congrArg some (by kernel_rfl))
  f322 := Tryz.func198.trans (congrArg some (by kernel_rfl))
  f337 := Tryz.func208.trans (congrArg some (by kernel_rfl))
  f338 := Tryz.func209.trans (congrArg some (by kernel_rfl))
  t0 := Tryz.underlying0
  a0 := Tryz.isAgg0
  z0 := Tryz.sizeOf0
  v0 := Tryz.zeroValue0
  t2 := Tryz.underlying2
  a2 := Tryz.isAgg2
  z2 := Tryz.sizeOf2
  v2 := Tryz.zeroValue2
  t3 := Tryz.underlying3
  a3 := Tryz.isAgg3
  z3 := Tryz.sizeOf3
  v3 := Tryz.zeroValue3
  t4 := Tryz.underlying4
  a4 := Tryz.isAgg4
  z4 := Tryz.sizeOf4
  v4 := Tryz.zeroValue4
  t5 := Tryz.underlying5
  a5 := Tryz.isAgg5
  z5 := Tryz.sizeOf5
  v5 := Tryz.zeroValue5
  t9 := Tryz.underlying9
  a9 := Tryz.isAgg9
  z9 := Tryz.sizeOf9
  v9 := Tryz.zeroValue9
  t20 := Tryz.underlying20
  a20 := Tryz.isAgg20
  z20 := Tryz.sizeOf20
  v20 := Tryz.zeroValue20
  t21 := Tryz.underlying21
  a21 := Tryz.isAgg21
  z21 := Tryz.sizeOf21
  v21 := Tryz.zeroValue21
  t37 := Tryz.underlying116
  a37 := Tryz.isAgg116
  z37 := Tryz.sizeOf116
  v37 := Tryz.zeroValue116
  t46 := Tryz.underlying177
  a46 := Tryz.isAgg177
  z46 := Tryz.sizeOf177
  v46 := Tryz.zeroValue177
  t51 := Tryz.underlying198
  a51 := Tryz.isAgg198
  z51 := Tryz.sizeOf198
  v51 := Tryz.zeroValue198
  t53 := Tryz.underlying191
  a53 := Tryz.isAgg191
  z53 := Tryz.sizeOf191
  v53 := Tryz.zeroValue191
  t75 := Tryz.underlying120
  a75 := Tryz.isAgg120
  z75 := Tryz.sizeOf120
  v75 := Tryz.zeroValue120
  t76 := Tryz.underlying121
  a76 := Tryz.isAgg121
  z76 := Tryz.sizeOf121
  v76 := Tryz.zeroValue121
  t85 := Tryz.underlying172
  a85 := Tryz.isAgg172
  z85 := Tryz.sizeOf172
  v85 := Tryz.zeroValue172
  t127 := Tryz.underlying153
  a127 := Tryz.isAgg153
  z127 := Tryz.sizeOf153
  v127 := Tryz.zeroValue153
  t143 := Tryz.underlying215
  a143 := Tryz.isAgg215
  z143 := Tryz.sizeOf215
  v143 := Tryz.zeroValue215
  t145 := Tryz.underlying217
  a145 := Tryz.isAgg217
  z145 := Tryz.sizeOf217
  v145 := Tryz.zeroValue217
  t167 := Tryz.underlying171
  a167 := Tryz.isAgg171
  z167 := Tryz.sizeOf171
  v167 := Tryz.zeroValue171
  t168 := Tryz.underlying174
  a168 := Tryz.isAgg174
  z168 := Tryz.sizeOf174
  v168 := Tryz.zeroValue174
  t171 := Tryz.underlying203
  a171 := Tryz.isAgg203
  z171 := Tryz.sizeOf203
  v171 := Tryz.zeroValue203
  t173 := Tryz.underlying206
  a173 := Tryz.isAgg206
  z173 := Tryz.sizeOf206
  v173 := Tryz.zeroValue206
  t175 := Tryz.underlying192
  a175 := Tryz.isAgg192
  z175 := Tryz.sizeOf192
  v175 := Tryz.zeroValue192
  t210 := Tryz.underlying196
  a210 := Tryz.isAgg196
  z210 := Tryz.sizeOf196
  v210 := Tryz.zeroValue196
  t212 := Tryz.underlying220
  a212 := Tryz.isAgg220
  z212 := Tryz.sizeOf220
  v212 := Tryz.zeroValue220
  t213 := Tryz.underlying221
  a213 := Tryz.isAgg221
  z213 := Tryz.sizeOf221
  t232 := Tryz.underlying225
  a232 := Tryz.isAgg225
  z232 := Tryz.sizeOf225
  v232 := Tryz.zeroValue225
  t233 := Tryz.underlying226
  a233 := Tryz.isAgg226
  z233 := Tryz.sizeOf226
  v233 := Tryz.zeroValue226
  g15 := by kernel_rfl
  g16 := by kernel_rfl
  g17 := by kernel_rfl
  g18 := by kernel_rfl
  g19 := by kernel_rfl
  t80 := Tryz.underlying26
  a80 := Tryz.isAgg26
  z80 := Tryz.sizeOf26
  v80 := Tryz.zeroValue26
  i0 := by kernel_rfl
  i2 := by kernel_rfl
  i3 := by kernel_rfl
  i4 := by kernel_rfl
  i5 := by kernel_rfl
  i9 := by kernel_rfl
  i20 := by kernel_rfl
  i21 := by kernel_rfl
  i37 := by kernel_rfl
  i46 := by kernel_rfl
  i51 := by kernel_rfl
  i53 := by kernel_rfl
  i75 := by kernel_rfl
  i76 := by kernel_rfl
  i80 := by kernel_rfl
  i85 := by kernel_rfl
  i127 := by kernel_rfl
  i143 := by kernel_rfl
  i145 := by kernel_rfl
  i167 := by kernel_rfl
  i168 := by kernel_rfl
  i171 := by kernel_rfl
  i173 := by kernel_rfl
  i175 := by kernel_rfl
  i210 := by kernel_rfl
  i212 := by kernel_rfl
  i232 := by kernel_rfl
  i233 := by kernel_rfl
  m15 := by kernel_rfl
  m16 := by kernel_rfl
  m17 := by kernel_rfl
  m18 := by kernel_rfl
  m19 := by kernel_rfl
  c0 := by kernel_rfl
  c2 := by kernel_rfl
  c3 := by kernel_rfl
  c4 := by kernel_rfl
  c5 := by kernel_rfl
  c9 := by kernel_rfl
  c20 := by kernel_rfl
  c21 := by kernel_rfl
  c37 := by kernel_rfl
  c46 := by kernel_rfl
  c51 := by kernel_rfl
  c53 := by kernel_rfl
  c75 := by kernel_rfl
  c76 := by kernel_rfl
  c80 := by kernel_rfl
  c85 := by kernel_rfl
  c127 := by kernel_rfl
  c143 := by kernel_rfl
  c145 := by kernel_rfl
  c167 := by kernel_rfl
  c168 := by kernel_rfl
  c171 := by kernel_rfl
  c173 := by kernel_rfl
  c175 := by kernel_rfl
  c210 := by kernel_rfl
  c212 := by kernel_rfl
  c213 := by kernel_rfl
  c232 := by kernel_rfl
  c233 := by kernel_rfl }
end Go.Proofs
/- Checks of paragraphs. Own work of this seat. -/
set_option maxRecDepth 100000
set_option linter.unusedSimpArgs false
set_option linter.unusedVariables false
namespace Go.Proofs.YtpjbbpilgfihbaaGreatDoor
open Go Go.Av Go.RowKit
attribute [local go_sem ↓] br_true br_false dbr_true dbr_false dbri_true dbri_false dbrg_true dbrg_false
attribute [local go_sem] run cont br dbr dx dxc dgrd dyld dres dcall calm fieldPlace? allHas step1 opN grdN resN condN exitN stopN exitIt dOk xop xbin xint xarith xstr xbool xpick xnot xneg xextract xpart xpartOk xindex xfieldF fieldD xnew xbox xalloc xfieldAddr xptrAddIf xindexAddr xloadC xload putCells reElem xstoreB xstore xconv xtext xlen xlen2 xcall xfill xbuild cut rep xbuildSlice xbuildSliceD isRow elemD isU8 ev evs evp Go.Av.put Go.Av.get ofConst yldD yldV notBool_undef args0 cellsOf cond_true cond_false decide_true decide_false decide_eq_true_eq decide_eq_false_iff_not List.getElem?_cons_zero List.getElem?_cons_succ List.getElem?_nil List.getD_cons_zero List.getD_cons_succ List.getD_nil List.set_cons_zero List.set_cons_succ List.length_cons List.length_nil List.cons_append List.nil_append List.append_nil List.all_cons List.all_nil List.map_cons List.map_nil List.take_succ_cons List.take_zero List.drop_succ_cons List.drop_zero Bool.and_true Bool.true_and Bool.and_self Bool.and_false Bool.false_and one Go.Av.frozen beq_self_eq_true true_and and_true forall_const false_implies implies_true and_self Option.map_some Option.map_none Nat.zero_add Nat.add_zero Nat.zero_mul Nat.mul_one Nat.one_mul Int.toNat_zero ne_eq not_false_eq_true not_true_eq_false Bool.true_eq_false Bool.false_eq_true List.toList_toArray inr Go.Av.byteOf isByte decide_eq_decide Bool.not_true Bool.not_false Bool.not_eq_true' Bool.or_true Bool.true_or Bool.or_false Bool.false_or ge_iff_le gt_iff_lt and_assoc Bool.decide_eq_true beq_iff_eq beq_eq_false_iff_ne bne_iff_ne bne_self_eq_false if_true if_false Bool.and_eq_true Bool.or_eq_true Bool.and_eq_false_imp Bool.or_eq_false_iff Bool.not_eq_false' has Option.isSome_some Option.isSome_none Int.toNat_natCast Int.cast_ofNat_Int List.length_append xapp2 xapp xappS xappD xappB notInt srcOf srcB byteAV splice' xcut xcutS xcutF xcutB xcutN xcut0 cutL loOf hiOf evo xmake zelem xmax xcopy2 xcopyS xcopyB xnil xcut3 ixOf xclear2 xclearB List.getElem?_toArray xbin2 xnileq xempty xmkmap xmput xmputB xmputF isKey keyEq mfind xbin3 xeqs xeqop eqFs bothB leafEq xlook xlookB xlookF xbytes beq_c_n beq_n_c bne_c_n bne_n_c one_nil dxi dxic dbri rix dck reader blind opOk refOk Go.Op.operands Go.Call.operands List.contains_cons List.contains_nil dxg dxgc dbrg pck putD List.lookup_cons List.lookup_nil ts2 tb2 zl2 za2 Tryz.underlying2 ts3 tb3 zl3 za3 Tryz.underlying3 ts4 tb4 zl4 za4 Tryz.underlying4 ts5 tb5 zl5 za5 Tryz.underlying5 ts6 tb6 zl6 za6 Tryz.underlying6 ts7 tb7 za7 Tryz.underlying7 ts8 tb8 za8 Tryz.underlying8 ts9 tb9 zl9 za9 Tryz.underlying9 ts10 tb10 zl10 za10 Tryz.underlying10 ts11 tb11 zl11 za11 Tryz.underlying11 ts12 tb12 zl12 za12 Tryz.underlying12 ts13 tb13 za13 Tryz.underlying13 ts14 tb14 za14 Tryz.underlying14 ts18 tb18 za18 Tryz.underlying18 ts19 tb19 za19 Tryz.underlying19 ts21 tb21 zl21 za21 Tryz.underlying21 ts22 tb22 zl22 za22 Tryz.underlying22 ts24 tb24 za24 Tryz.underlying24 ts25 tb25 za25 Tryz.underlying25 ts27 tb27 zl27 za27 Tryz.underlying27 ts35 tb35 zl35 za35 Tryz.underlying35 ts36 tb36 za36 Tryz.underlying36 ts37 tb37 za37 Tryz.underlying37 ts39 tb39 zl39 za39 Tryz.underlying39 ts41 tb41 za41 Tryz.underlying41 ts42 tb42 za42 Tryz.underlying42 ts63 tb63 zl63 za63 Tryz.underlying63 ts64 tb64 zl64 za64 Tryz.underlying64 ts65 tb65 za65 Tryz.underlying65 ts66 tb66 za66 Tryz.underlying66 ts67 tb67 zl67 za67 Tryz.underlying67 ts69 tb69 za69 Tryz.underlying69 ts70 tb70 za70 Tryz.underlying70 ts73 tb73 za73 Tryz.underlying73 ts74 tb74 za74 Tryz.underlying74 ts75 tb75 zl75 za75 Tryz.underlying75 ts82 tb82 zl82 za82 Tryz.underlying82 ts96 tb96 za96 Tryz.underlying96 ts97 tb97 za97 Tryz.underlying97 ts103 tb103 za103 Tryz.underlying103 ts104 tb104 za104 Tryz.underlying104 ts109 tb109 zl109 za109 Tryz.underlying109 ts116 tb116 zl116 za116 Tryz.underlying116 ts117 tb117 za117 Tryz.underlying117 ts118 tb118 za118 Tryz.underlying118 ts120 tb120 zl120 za120 Tryz.underlying120 ts124 tb124 zl124 za124 Tryz.underlying124 ts126 tb126 za126 Tryz.underlying126 ts128 tb128 zl128 za128 Tryz.underlying128 ts130 tb130 za130 Tryz.underlying130 ts131 tb131 za131 Tryz.underlying131 ts153 tb153 zl153 za153 Tryz.underlying153 ts167 tb167 zl167 za167 Tryz.underlying167 ts171 tb171 zl171 za171 Tryz.underlying171 ts177 tb177 zl177 za177 Tryz.underlying177 ts183 tb183 zl183 za183 Tryz.underlying183 ts189 tb189 zl189 za189 Tryz.underlying189 ts191 tb191 zl191 za191 Tryz.underlying191 ts195 tb195 za195 Tryz.underlying195 ts196 tb196 za196 Tryz.underlying196 ts198 tb198 zl198 za198 Tryz.underlying198 ts203 tb203 Tryz.underlying203 ts209 tb209 za209 Tryz.underlying209 ts210 tb210 za210 Tryz.underlying210 ts211 tb211 Tryz.underlying211 ts216 tb216 za216 Tryz.underlying216 ts217 tb217 za217 Tryz.underlying217 ts220 tb220 Tryz.underlying220 ts225 tb225 Tryz.underlying225 ts226 tb226 Tryz.underlying226 ts227 tb227 za227 Tryz.underlying227 ts228 tb228 za228 Tryz.underlying228 ts232 tb232 zl232 za232 Tryz.underlying232 ts233 tb233 zl233 za233 Tryz.underlying233 ts235 tb235 zl235 za235 Tryz.underlying235 ts236 tb236 zl236 za236 Tryz.underlying236 ts237 tb237 za237 Tryz.underlying237 ts238 tb238 za238 Tryz.underlying238

theorem pc_libB {f : FuncId} {args : List AV} {r : AV} (vs : List Value) (v : Value) (hb : hasBody Tryz.prog f = true) (ha : ∀ h vs', RL h Lf0 true vs' args → vs' = vs) (hr : ∀ h, RV h Lf0 true v r)
    (H : ∀ w, Calls Tryz.prog f vs.toArray w fun e w' => e = .returned v ∧ Below w.heap.size w w') : Pc Tryz.prog f args (· = r) := by
  refine ⟨hb, fun h w vs' hm hv => ?_⟩
  have := ha h vs' hv
  subst this
  refine (H w).mono ?_
  rintro e w' ⟨rfl, hs⟩
  have hs : Same w w' := ⟨hs.os, hs.tape, hs.output, hs.size, hs.block⟩
  exact ⟨v, r, h, rfl, rfl, fun b o v e => ⟨hs.cell (hm b o v e).1, (hm b o v e).2⟩, fun _ _ _ x => x, fun b o e n => (n e).elim, hs, hr h⟩

def asciiL (s : List UInt8) : Prop := ∀ b ∈ s, b.toNat < 128
theorem ascii_at {s : List UInt8} (h : asciiL s) : ∀ (j : Nat) b, (⟨s.toArray⟩ : ByteArray).data.toList[j]? = some b → b.toNat < 128 := fun j b hb => h b (List.mem_of_getElem? hb)
theorem ascii_set {s : List UInt8} (h : s.all (fun b => decide (b.toNat < 128)) = true) : asciiL s := fun b hb => of_decide_eq_true (List.all_eq_true.1 h b hb)
theorem ascii_ok {s : List UInt8} (h : s.all okB = true) : asciiL s := fun b hb => by
  have := List.all_eq_true.1 h b hb
  simp only [okB, Bool.and_eq_true, Bool.not_eq_true', decide_eq_false_iff_not] at this
  omega

theorem set116 : (Tryz.prog.info? (Tryz.lays150_ren.t 116)).map (fun i => (i.zero, i.size)) = some (some (.agg (Array.replicate 256 (.bool false))), 256) := by kernel_rfl
theorem set160 : (Tryz.prog.info? (Tryz.lays160_ren.t 116)).map (fun i => (i.zero, i.size)) = some (some (.agg (Array.replicate 256 (.bool false))), 256) := by kernel_rfl
theorem set161 : (Tryz.prog.info? (Tryz.lays161_ren.t 116)).map (fun i => (i.zero, i.size)) = some (some (.agg (Array.replicate 256 (.bool false))), 256) := by kernel_rfl
theorem containsAny_pc (s p : List UInt8) (hs : s.length < 4294967281) (hp : p.length < 4294967281) (h1 : asciiL s) (h2 : asciiL p) : Pc Tryz.prog 152 [.str s, .str p] (· = .bool (Lib.containsAny s p)) :=
  pc_libB [_, _] (.bool (Lib.containsAny s p)) hB152 (two_strs s p) (fun h => .bool _) fun w => Any.strings_ContainsAny_laid Tryz.lays150 set116 ⟨s.toArray⟩ ⟨p.toArray⟩ w hs hp (ascii_at h1) (ascii_at h2)
theorem trim_pc (s p : List UInt8) (hs : s.length < 4294967281) (hp : p.length < 4294967281) (h2 : asciiL p) : Pc Tryz.prog 70 [.str s, .str p] (· = .str (Lib.trimS s p)) :=
  pc_libB [_, _] (.string ⟨(Lib.trimS s p).toArray⟩) hB70 (two_strs s p) (fun h => .str _) fun w => Any.strings_Trim_laid Tryz.lays160 set160 ⟨s.toArray⟩ ⟨p.toArray⟩ w (show s.length ≤ _ by omega) hp (ascii_at h2)
theorem trimLeft_pc (s p : List UInt8) (hp : p.length < 4294967281) (h2 : asciiL p) : Pc Tryz.prog 143 [.str s, .str p] (· = .str (Lib.trimLeftS s p)) :=
  pc_libB [_, _] (.string ⟨(Lib.trimLeftS s p).toArray⟩) hB143 (two_strs s p) (fun h => .str _) fun w => Any.strings_TrimLeft_laid Tryz.lays161 set161 ⟨s.toArray⟩ ⟨p.toArray⟩ w hp (ascii_at h2)

def turnC (c : UInt8) : Bool := capI c.toNat || (((c.toNat : Int) == 32) || ((c.toNat : Int) == 46))
def isTurnL (s : List UInt8) : Bool := s.all turnC && decide ((s.length : Int) ≤ 40)

theorem isTurn_pc (s : List UInt8) (hs : s.length < 1000000) : Pc Tryz.prog 43 [.str s] (· = .bool (isTurnL s)) := by
  refine pc_intro (ct_intro Tryz.func43 rfl Tryz.ntmps43 hB43 (by simp) fun h ρ w => go (N := 30) Tryz.ntmps43 300 ?_)
  simp only [go_sem, Nat.reduceAdd, Nat.reduceMul, Nat.reduceSub, Nat.reduceBEq, Nat.reduceLT, Nat.reduceLeDiff, reduceIte, reduceCtorEq, Int.reduceToNat, Int.reduceLE, Int.reduceLT, Int.reduceNe, Int.reduceMul, Int.reduceAdd, Int.reduceSub, Int.reduceDiv, Int.reduceMod, Int.reduceEq, Int.reduceGE, Int.reduceGT, Int.reduceNeg, Int.reduceBEq, Int.reduceBNe, Nat.reduceEqDiff]
  refine aloop (ι := Nat) (fun i => s.length - i) (fun i => [(6, .int .i64 i), (5, .int .i64 s.length), (0, .str s)]) (fun _ => []) (fun i => i ≤ s.length ∧ (s.take i).all turnC = true) 0 ⟨by omega, by simp⟩ ?_ ?_
  · refine Shift.weak ?_
    simp only [wk, go_sem, Nat.reduceAdd, Nat.reduceMul, Nat.reduceSub, Nat.reduceBEq, Nat.reduceLT, Nat.reduceLeDiff, reduceIte, reduceCtorEq, Int.reduceToNat, Int.reduceLE, Int.reduceLT, Int.reduceNe, Int.reduceMul, Int.reduceAdd, Int.reduceSub, Int.reduceDiv, Int.reduceMod, Int.reduceEq, Int.reduceGE, Int.reduceGT, Int.reduceNeg, Int.reduceBEq, Int.reduceBNe, Nat.reduceEqDiff]
  · rintro i ⟨g1, g2⟩ J hJ
    refine go (N := 30) Tryz.ntmps43 300 ?_
    by_cases hi : i < s.length
    · have d1 : decide ((i : Int) < (s.length : Int)) = true := by simp; omega
      have hx : s.getD i 0 = s[i] := by simp [List.getD, hi]
      simp only [go_sem, Nat.reduceAdd, Nat.reduceMul, Nat.reduceSub, Nat.reduceBEq, Nat.reduceLT, Nat.reduceLeDiff, reduceIte, reduceCtorEq, Int.reduceToNat, Int.reduceLE, Int.reduceLT, Int.reduceNe, Int.reduceMul, Int.reduceAdd, Int.reduceSub, Int.reduceDiv, Int.reduceMod, Int.reduceEq, Int.reduceGE, Int.reduceGT, Int.reduceNeg, Int.reduceBEq, Int.reduceBNe, Nat.reduceEqDiff, d1, hx]
      refine ⟨by omega, by simpa using hi, ?_⟩
      refine pcall1 (isCapital_pc _) rfl (N := 30) Tryz.ntmps43 rfl (go (N := 30) Tryz.ntmps43 300 ?_)
      have bad : turnC s[i] = false → isTurnL s = false := fun h => by simp only [isTurnL, all_false_at hi h, Bool.false_and]
      have again : turnC s[i] = true → (s.take (i + 1)).all turnC = true := fun h => all_take_succ hi g2 h
      have e1 : (i : Int) + 1 = ((i + 1 : Nat) : Int) := by omega
      unfold turnC at bad again
      cases q1 : capI s[i].toNat with
      | true =>
        simp only [go_sem, Nat.reduceAdd, Nat.reduceMul, Nat.reduceSub, Nat.reduceBEq, Nat.reduceLT, Nat.reduceLeDiff, reduceIte, reduceCtorEq, Int.reduceToNat, Int.reduceLE, Int.reduceLT, Int.reduceNe, Int.reduceMul, Int.reduceAdd, Int.reduceSub, Int.reduceDiv, Int.reduceMod, Int.reduceEq, Int.reduceGE, Int.reduceGT, Int.reduceNeg, Int.reduceBEq, Int.reduceBNe, Nat.reduceEqDiff]
        rw [e1]
        repeat refine And.intro (by omega) ?_
        refine ainv (hJ (i + 1) ⟨by omega, again (by rw [q1]; rfl)⟩ (by omega)) (Shift.weak ?_)
        simp only [wk, go_sem, Nat.reduceAdd, Nat.reduceMul, Nat.reduceSub, Nat.reduceBEq, Nat.reduceLT, Nat.reduceLeDiff, reduceIte, reduceCtorEq, Int.reduceToNat, Int.reduceLE, Int.reduceLT, Int.reduceNe, Int.reduceMul, Int.reduceAdd, Int.reduceSub, Int.reduceDiv, Int.reduceMod, Int.reduceEq, Int.reduceGE, Int.reduceGT, Int.reduceNeg, Int.reduceBEq, Int.reduceBNe, Nat.reduceEqDiff]
      | false =>
        cases q2 : ((s[i].toNat : Int) == 32) with
        | true =>
          have q2' : ((s[i].toNat : Int) != 32) = false := by rw [bne, q2]; rfl
          simp only [go_sem, Nat.reduceAdd, Nat.reduceMul, Nat.reduceSub, Nat.reduceBEq, Nat.reduceLT, Nat.reduceLeDiff, reduceIte, reduceCtorEq, Int.reduceToNat, Int.reduceLE, Int.reduceLT, Int.reduceNe, Int.reduceMul, Int.reduceAdd, Int.reduceSub, Int.reduceDiv, Int.reduceMod, Int.reduceEq, Int.reduceGE, Int.reduceGT, Int.reduceNeg, Int.reduceBEq, Int.reduceBNe, Nat.reduceEqDiff, q2', hx]
          rw [e1]
          repeat refine And.intro (by omega) ?_
          refine ainv (hJ (i + 1) ⟨by omega, again (by rw [q1, q2]; rfl)⟩ (by omega)) (Shift.weak ?_)
          simp only [wk, go_sem, Nat.reduceAdd, Nat.reduceMul, Nat.reduceSub, Nat.reduceBEq, Nat.reduceLT, Nat.reduceLeDiff, reduceIte, reduceCtorEq, Int.reduceToNat, Int.reduceLE, Int.reduceLT, Int.reduceNe, Int.reduceMul, Int.reduceAdd, Int.reduceSub, Int.reduceDiv, Int.reduceMod, Int.reduceEq, Int.reduceGE, Int.reduceGT, Int.reduceNeg, Int.reduceBEq, Int.reduceBNe, Nat.reduceEqDiff]
        | false =>
          have q2' : ((s[i].toNat : Int) != 32) = true := by rw [bne, q2]; rfl
          cases q3 : ((s[i].toNat : Int) == 46) with
          | true =>
            have q3' : ((s[i].toNat : Int) != 46) = false := by rw [bne, q3]; rfl
            simp only [go_sem, Nat.reduceAdd, Nat.reduceMul, Nat.reduceSub, Nat.reduceBEq, Nat.reduceLT, Nat.reduceLeDiff, reduceIte, reduceCtorEq, Int.reduceToNat, Int.reduceLE, Int.reduceLT, Int.reduceNe, Int.reduceMul, Int.reduceAdd, Int.reduceSub, Int.reduceDiv, Int.reduceMod, Int.reduceEq, Int.reduceGE, Int.reduceGT, Int.reduceNeg, Int.reduceBEq, Int.reduceBNe, Nat.reduceEqDiff, q2', q3', hx]
            rw [e1]
            repeat refine And.intro (by omega) ?_
            refine ainv (hJ (i + 1) ⟨by omega, again (by rw [q1, q2, q3]; rfl)⟩ (by omega)) (Shift.weak ?_)
            simp only [wk, go_sem, Nat.reduceAdd, Nat.reduceMul, Nat.reduceSub, Nat.reduceBEq, Nat.reduceLT, Nat.reduceLeDiff, reduceIte, reduceCtorEq, Int.reduceToNat, Int.reduceLE, Int.reduceLT, Int.reduceNe, Int.reduceMul, Int.reduceAdd, Int.reduceSub, Int.reduceDiv, Int.reduceMod, Int.reduceEq, Int.reduceGE, Int.reduceGT, Int.reduceNeg, Int.reduceBEq, Int.reduceBNe, Nat.reduceEqDiff]
          | false =>
            have q3' : ((s[i].toNat : Int) != 46) = true := by rw [bne, q3]; rfl
            simp only [go_sem, Nat.reduceAdd, Nat.reduceMul, Nat.reduceSub, Nat.reduceBEq, Nat.reduceLT, Nat.reduceLeDiff, reduceIte, reduceCtorEq, Int.reduceToNat, Int.reduceLE, Int.reduceLT, Int.reduceNe, Int.reduceMul, Int.reduceAdd, Int.reduceSub, Int.reduceDiv, Int.reduceMod, Int.reduceEq, Int.reduceGE, Int.reduceGT, Int.reduceNeg, Int.reduceBEq, Int.reduceBNe, Nat.reduceEqDiff, q2', q3', hx]
            repeat refine And.intro (by omega) ?_
            exact aret [2] rfl ⟨by rw [bad (by rw [q1, q2, q3]; rfl)]; rfl, rfl⟩
    · have d1 : decide ((i : Int) < (s.length : Int)) = false := by simp; omega
      have : i = s.length := by omega
      subst this
      simp only [go_sem, Nat.reduceAdd, Nat.reduceMul, Nat.reduceSub, Nat.reduceBEq, Nat.reduceLT, Nat.reduceLeDiff, reduceIte, reduceCtorEq, Int.reduceToNat, Int.reduceLE, Int.reduceLT, Int.reduceNe, Int.reduceMul, Int.reduceAdd, Int.reduceSub, Int.reduceDiv, Int.reduceMod, Int.reduceEq, Int.reduceGE, Int.reduceGT, Int.reduceNeg, Int.reduceBEq, Int.reduceBNe, Nat.reduceEqDiff, d1]
      refine aret [2] rfl ⟨?_, rfl⟩
      rw [List.take_length] at g2
      simp [resV, Av.get, isTurnL, g2]

def nameL (s : List UInt8) : Bool := properL s 30 [39, 46, 45]
theorem isName_pch {S : Std} (hS : LibOk S) (s : List UInt8) (hs : s.length < 1000000) : PcH Tryz.prog S 36 [.str s] (· = .bool (nameL s)) := by
  refine pch_intro (cth_intro Tryz.func36 rfl Tryz.ntmps36 hB36 (by simp) fun h ρ w hg => go (N := 5) Tryz.ntmps36 300 ?_)
  simp only [go_sem, Nat.reduceAdd, Nat.reduceMul, Nat.reduceSub, Nat.reduceBEq, Nat.reduceLT, Nat.reduceLeDiff, reduceIte, reduceCtorEq, Int.reduceToNat, Int.reduceLE, Int.reduceLT, Int.reduceNe, Int.reduceMul, Int.reduceAdd, Int.reduceSub, Int.reduceDiv, Int.reduceMod, Int.reduceEq, Int.reduceGE, Int.reduceGT, Int.reduceNeg, Int.reduceBEq, Int.reduceBNe, Nat.reduceEqDiff]
  refine pcallH1 hg (proper_pch hS s 30 _ hs) rfl (N := 5) Tryz.ntmps36 rfl (go (N := 5) Tryz.ntmps36 300 ?_)
  simp only [go_sem, Nat.reduceAdd, Nat.reduceMul, Nat.reduceSub, Nat.reduceBEq, Nat.reduceLT, Nat.reduceLeDiff, reduceIte, reduceCtorEq, Int.reduceToNat, Int.reduceLE, Int.reduceLT, Int.reduceNe, Int.reduceMul, Int.reduceAdd, Int.reduceSub, Int.reduceDiv, Int.reduceMod, Int.reduceEq, Int.reduceGE, Int.reduceGT, Int.reduceNeg, Int.reduceBEq, Int.reduceBNe, Nat.reduceEqDiff]
  exact aret [2] rfl ⟨rfl, rfl⟩

def followsL (k l : Int) : Bool := if k == 3 then l == 2 || l == 4 else if k == 4 then l == 2 || (l == 3 || l == 4) else l != 2 && l != 3
theorem follows_pc (k l : Int) : Pc Tryz.prog 118 [.int .i64 k, .int .i64 l] (· = .bool (followsL k l)) := by
  refine pc_intro (ct_intro Tryz.func118 rfl Tryz.ntmps118 hB118 (by simp) fun h ρ w => go (N := 33) Tryz.ntmps118 300 ?_)
  unfold followsL
  cases q3 : k == 3 with
  | true =>
    cases q : l == 2 <;>
    · simp only [go_sem, Nat.reduceAdd, Nat.reduceMul, Nat.reduceSub, Nat.reduceBEq, Nat.reduceLT, Nat.reduceLeDiff, reduceIte, reduceCtorEq, Int.reduceToNat, Int.reduceLE, Int.reduceLT, Int.reduceNe, Int.reduceMul, Int.reduceAdd, Int.reduceSub, Int.reduceDiv, Int.reduceMod, Int.reduceEq, Int.reduceGE, Int.reduceGT, Int.reduceNeg, Int.reduceBEq, Int.reduceBNe, Nat.reduceEqDiff, q3, q]
      exact aret [4] rfl ⟨rfl, rfl⟩
  | false =>
    cases q4 : k == 4 with
    | true =>
      cases q : l == 2 <;> cases q' : l == 3 <;>
      · simp only [go_sem, Nat.reduceAdd, Nat.reduceMul, Nat.reduceSub, Nat.reduceBEq, Nat.reduceLT, Nat.reduceLeDiff, reduceIte, reduceCtorEq, Int.reduceToNat, Int.reduceLE, Int.reduceLT, Int.reduceNe, Int.reduceMul, Int.reduceAdd, Int.reduceSub, Int.reduceDiv, Int.reduceMod, Int.reduceEq, Int.reduceGE, Int.reduceGT, Int.reduceNeg, Int.reduceBEq, Int.reduceBNe, Nat.reduceEqDiff, q3, q4, q, q']
        exact aret [4] rfl ⟨rfl, rfl⟩
    | false =>
      cases q : l != 2 <;>
      · simp only [go_sem, Nat.reduceAdd, Nat.reduceMul, Nat.reduceSub, Nat.reduceBEq, Nat.reduceLT, Nat.reduceLeDiff, reduceIte, reduceCtorEq, Int.reduceToNat, Int.reduceLE, Int.reduceLT, Int.reduceNe, Int.reduceMul, Int.reduceAdd, Int.reduceSub, Int.reduceDiv, Int.reduceMod, Int.reduceEq, Int.reduceGE, Int.reduceGT, Int.reduceNeg, Int.reduceBEq, Int.reduceBNe, Nat.reduceEqDiff, q3, q4, q]
        exact aret [4] rfl ⟨rfl, rfl⟩

structure Pa where
  kind : Int
  text : List UInt8
structure Sc where
  no : List UInt8
  place : Int
  set : List UInt8
  time : Int
  paras : List Pa
structure Sr where
  title : List UInt8
  scenes : List Sc
def paA (p : Pa) : AV := .agg [.int .i64 p.kind, .str p.text]
def scA (x : Sc) : AV := .agg [.str x.no, .int .i64 x.place, .str x.set, .int .i64 x.time, .fz 2 (x.paras.map paA)]
def srA (x : Sr) : AV := .agg [.str x.title, .fz 5 (x.scenes.map scA)]

def paraOk (p : Pa) : Bool := decide (1 ≤ p.kind) && (decide (p.kind ≤ 5) && (p.text != [] && (plainL p.text && (decide (p.text.length ≤ 2000) &&
  ((p.kind != 2 || nameL p.text) && ((p.kind != 3 || (decide (p.text.length ≤ 200) && !Lib.containsAny p.text [40, 41])) && (p.kind != 5 || isTurnL p.text)))))))

theorem paraFault_pch {S : Std} (hS : LibOk S) (p : Pa) (h : paraOk p = true) : PcH Tryz.prog S 117 [paA p] (· = .int .i64 0) := by
  obtain ⟨k, s⟩ := p
  simp only [paraOk, Bool.and_eq_true, decide_eq_true_eq, bne_iff_ne, ne_eq, Bool.or_eq_true, Bool.not_eq_true'] at h
  obtain ⟨h1, h2, h3, h4, h5, h6, h7, h8⟩ := h
  have e0 : (s == []) = false := by simpa using h3
  have hs : s.length < 1000000 := by omega
  have d2 : decide ((s.length : Int) > 2000) = false := by simp; omega
  have hasc : asciiL s := ascii_ok (by simp only [plainL, Bool.and_eq_true] at h4; exact h4.1)
  unfold paA
  have hk : k = 1 ∨ k = 2 ∨ k = 3 ∨ k = 4 ∨ k = 5 := by omega
  refine pch_intro (cth_intro Tryz.func117 rfl Tryz.ntmps117 hB117 (by simp) fun h ρ w hg => go (N := 66) Tryz.ntmps117 300 ?_)
  rcases hk with rfl | rfl | rfl | rfl | rfl
  · simp only [go_sem, Nat.reduceAdd, Nat.reduceMul, Nat.reduceSub, Nat.reduceBEq, Nat.reduceLT, Nat.reduceLeDiff, reduceIte, reduceCtorEq, Int.reduceToNat, Int.reduceLE, Int.reduceLT, Int.reduceNe, Int.reduceMul, Int.reduceAdd, Int.reduceSub, Int.reduceDiv, Int.reduceMod, Int.reduceEq, Int.reduceGE, Int.reduceGT, Int.reduceNeg, Int.reduceBEq, Int.reduceBNe, Nat.reduceEqDiff, e0, d2]
    refine pcallH1 hg (plain_pch hS s hs) rfl (N := 66) Tryz.ntmps117 rfl (go (N := 66) Tryz.ntmps117 300 ?_)
    rw [h4]
    simp only [go_sem, Nat.reduceAdd, Nat.reduceMul, Nat.reduceSub, Nat.reduceBEq, Nat.reduceLT, Nat.reduceLeDiff, reduceIte, reduceCtorEq, Int.reduceToNat, Int.reduceLE, Int.reduceLT, Int.reduceNe, Int.reduceMul, Int.reduceAdd, Int.reduceSub, Int.reduceDiv, Int.reduceMod, Int.reduceEq, Int.reduceGE, Int.reduceGT, Int.reduceNeg, Int.reduceBEq, Int.reduceBNe, Nat.reduceEqDiff, e0, d2]
    exact aret [2] rfl ⟨rfl, rfl⟩
  · simp only [go_sem, Nat.reduceAdd, Nat.reduceMul, Nat.reduceSub, Nat.reduceBEq, Nat.reduceLT, Nat.reduceLeDiff, reduceIte, reduceCtorEq, Int.reduceToNat, Int.reduceLE, Int.reduceLT, Int.reduceNe, Int.reduceMul, Int.reduceAdd, Int.reduceSub, Int.reduceDiv, Int.reduceMod, Int.reduceEq, Int.reduceGE, Int.reduceGT, Int.reduceNeg, Int.reduceBEq, Int.reduceBNe, Nat.reduceEqDiff, e0, d2]
    refine pcallH1 hg (plain_pch hS s hs) rfl (N := 66) Tryz.ntmps117 rfl (go (N := 66) Tryz.ntmps117 300 ?_)
    rw [h4]
    simp only [go_sem, Nat.reduceAdd, Nat.reduceMul, Nat.reduceSub, Nat.reduceBEq, Nat.reduceLT, Nat.reduceLeDiff, reduceIte, reduceCtorEq, Int.reduceToNat, Int.reduceLE, Int.reduceLT, Int.reduceNe, Int.reduceMul, Int.reduceAdd, Int.reduceSub, Int.reduceDiv, Int.reduceMod, Int.reduceEq, Int.reduceGE, Int.reduceGT, Int.reduceNeg, Int.reduceBEq, Int.reduceBNe, Nat.reduceEqDiff, e0, d2]
    refine pcallH1 hg (isName_pch hS s hs) rfl (N := 66) Tryz.ntmps117 rfl (go (N := 66) Tryz.ntmps117 300 ?_)
    rw [h6.resolve_left (by simp)]
    simp only [go_sem, Nat.reduceAdd, Nat.reduceMul, Nat.reduceSub, Nat.reduceBEq, Nat.reduceLT, Nat.reduceLeDiff, reduceIte, reduceCtorEq, Int.reduceToNat, Int.reduceLE, Int.reduceLT, Int.reduceNe, Int.reduceMul, Int.reduceAdd, Int.reduceSub, Int.reduceDiv, Int.reduceMod, Int.reduceEq, Int.reduceGE, Int.reduceGT, Int.reduceNeg, Int.reduceBEq, Int.reduceBNe, Nat.reduceEqDiff]
    exact aret [2] rfl ⟨rfl, rfl⟩
  · have h7 := h7.resolve_left (by simp)
    have d3 : decide ((s.length : Int) > 200) = false := by simp; omega
    simp only [go_sem, Nat.reduceAdd, Nat.reduceMul, Nat.reduceSub, Nat.reduceBEq, Nat.reduceLT, Nat.reduceLeDiff, reduceIte, reduceCtorEq, Int.reduceToNat, Int.reduceLE, Int.reduceLT, Int.reduceNe, Int.reduceMul, Int.reduceAdd, Int.reduceSub, Int.reduceDiv, Int.reduceMod, Int.reduceEq, Int.reduceGE, Int.reduceGT, Int.reduceNeg, Int.reduceBEq, Int.reduceBNe, Nat.reduceEqDiff, e0, d2, d3]
    refine pcallH1 hg (plain_pch hS s hs) rfl (N := 66) Tryz.ntmps117 rfl (go (N := 66) Tryz.ntmps117 300 ?_)
    rw [h4]
    simp only [go_sem, Nat.reduceAdd, Nat.reduceMul, Nat.reduceSub, Nat.reduceBEq, Nat.reduceLT, Nat.reduceLeDiff, reduceIte, reduceCtorEq, Int.reduceToNat, Int.reduceLE, Int.reduceLT, Int.reduceNe, Int.reduceMul, Int.reduceAdd, Int.reduceSub, Int.reduceDiv, Int.reduceMod, Int.reduceEq, Int.reduceGE, Int.reduceGT, Int.reduceNeg, Int.reduceBEq, Int.reduceBNe, Nat.reduceEqDiff, e0, d2, d3]
    refine pcall1 (containsAny_pc s [40, 41] (by omega) (by decide) hasc (ascii_set rfl)) rfl (N := 66) Tryz.ntmps117 rfl (go (N := 66) Tryz.ntmps117 300 ?_)
    rw [h7.2]
    simp only [go_sem, Nat.reduceAdd, Nat.reduceMul, Nat.reduceSub, Nat.reduceBEq, Nat.reduceLT, Nat.reduceLeDiff, reduceIte, reduceCtorEq, Int.reduceToNat, Int.reduceLE, Int.reduceLT, Int.reduceNe, Int.reduceMul, Int.reduceAdd, Int.reduceSub, Int.reduceDiv, Int.reduceMod, Int.reduceEq, Int.reduceGE, Int.reduceGT, Int.reduceNeg, Int.reduceBEq, Int.reduceBNe, Nat.reduceEqDiff]
    exact aret [2] rfl ⟨rfl, rfl⟩
  · simp only [go_sem, Nat.reduceAdd, Nat.reduceMul, Nat.reduceSub, Nat.reduceBEq, Nat.reduceLT, Nat.reduceLeDiff, reduceIte, reduceCtorEq, Int.reduceToNat, Int.reduceLE, Int.reduceLT, Int.reduceNe, Int.reduceMul, Int.reduceAdd, Int.reduceSub, Int.reduceDiv, Int.reduceMod, Int.reduceEq, Int.reduceGE, Int.reduceGT, Int.reduceNeg, Int.reduceBEq, Int.reduceBNe, Nat.reduceEqDiff, e0, d2]
    refine pcallH1 hg (plain_pch hS s hs) rfl (N := 66) Tryz.ntmps117 rfl (go (N := 66) Tryz.ntmps117 300 ?_)
    rw [h4]
    simp only [go_sem, Nat.reduceAdd, Nat.reduceMul, Nat.reduceSub, Nat.reduceBEq, Nat.reduceLT, Nat.reduceLeDiff, reduceIte, reduceCtorEq, Int.reduceToNat, Int.reduceLE, Int.reduceLT, Int.reduceNe, Int.reduceMul, Int.reduceAdd, Int.reduceSub, Int.reduceDiv, Int.reduceMod, Int.reduceEq, Int.reduceGE, Int.reduceGT, Int.reduceNeg, Int.reduceBEq, Int.reduceBNe, Nat.reduceEqDiff, e0, d2]
    exact aret [2] rfl ⟨rfl, rfl⟩
  · simp only [go_sem, Nat.reduceAdd, Nat.reduceMul, Nat.reduceSub, Nat.reduceBEq, Nat.reduceLT, Nat.reduceLeDiff, reduceIte, reduceCtorEq, Int.reduceToNat, Int.reduceLE, Int.reduceLT, Int.reduceNe, Int.reduceMul, Int.reduceAdd, Int.reduceSub, Int.reduceDiv, Int.reduceMod, Int.reduceEq, Int.reduceGE, Int.reduceGT, Int.reduceNeg, Int.reduceBEq, Int.reduceBNe, Nat.reduceEqDiff, e0, d2]
    refine pcallH1 hg (plain_pch hS s hs) rfl (N := 66) Tryz.ntmps117 rfl (go (N := 66) Tryz.ntmps117 300 ?_)
    rw [h4]
    simp only [go_sem, Nat.reduceAdd, Nat.reduceMul, Nat.reduceSub, Nat.reduceBEq, Nat.reduceLT, Nat.reduceLeDiff, reduceIte, reduceCtorEq, Int.reduceToNat, Int.reduceLE, Int.reduceLT, Int.reduceNe, Int.reduceMul, Int.reduceAdd, Int.reduceSub, Int.reduceDiv, Int.reduceMod, Int.reduceEq, Int.reduceGE, Int.reduceGT, Int.reduceNeg, Int.reduceBEq, Int.reduceBNe, Nat.reduceEqDiff, e0, d2]
    refine pcall1 (isTurn_pc s hs) rfl (N := 66) Tryz.ntmps117 rfl (go (N := 66) Tryz.ntmps117 300 ?_)
    rw [h8.resolve_left (by simp)]
    simp only [go_sem, Nat.reduceAdd, Nat.reduceMul, Nat.reduceSub, Nat.reduceBEq, Nat.reduceLT, Nat.reduceLeDiff, reduceIte, reduceCtorEq, Int.reduceToNat, Int.reduceLE, Int.reduceLT, Int.reduceNe, Int.reduceMul, Int.reduceAdd, Int.reduceSub, Int.reduceDiv, Int.reduceMod, Int.reduceEq, Int.reduceGE, Int.reduceGT, Int.reduceNeg, Int.reduceBEq, Int.reduceBNe, Nat.reduceEqDiff]
    exact aret [2] rfl ⟨rfl, rfl⟩
end Go.Proofs.YtpjbbpilgfihbaaGreatDoor
/- Numbers of scenes: what they are, divided, compared. Own work of this seat. -/
set_option maxRecDepth 100000
set_option linter.unusedSimpArgs false
set_option linter.unusedVariables false
namespace Go.Proofs.YtpjbbpilgfihbaaGreatDoor
open Go Go.Av Go.RowKit
attribute [local go_sem ↓] br_true br_false dbr_true dbr_false dbri_true dbri_false dbrg_true dbrg_false
attribute [local go_sem] run cont br dbr dx dxc dgrd dyld dres dcall calm fieldPlace? allHas step1 opN grdN resN condN exitN stopN exitIt dOk xop xbin xint xarith xstr xbool xpick xnot xneg xextract xpart xpartOk xindex xfieldF fieldD xnew xbox xalloc xfieldAddr xptrAddIf xindexAddr xloadC xload putCells reElem xstoreB xstore xconv xtext xlen xlen2 xcall xfill xbuild cut rep xbuildSlice xbuildSliceD isRow elemD isU8 ev evs evp Go.Av.put Go.Av.get ofConst yldD yldV notBool_undef args0 cellsOf cond_true cond_false decide_true decide_false decide_eq_true_eq decide_eq_false_iff_not List.getElem?_cons_zero List.getElem?_cons_succ List.getElem?_nil List.getD_cons_zero List.getD_cons_succ List.getD_nil List.set_cons_zero List.set_cons_succ List.length_cons List.length_nil List.cons_append List.nil_append List.append_nil List.all_cons List.all_nil List.map_cons List.map_nil List.take_succ_cons List.take_zero List.drop_succ_cons List.drop_zero Bool.and_true Bool.true_and Bool.and_self Bool.and_false Bool.false_and one Go.Av.frozen beq_self_eq_true true_and and_true forall_const false_implies implies_true and_self Option.map_some Option.map_none Nat.zero_add Nat.add_zero Nat.zero_mul Nat.mul_one Nat.one_mul Int.toNat_zero ne_eq not_false_eq_true not_true_eq_false Bool.true_eq_false Bool.false_eq_true List.toList_toArray inr Go.Av.byteOf isByte decide_eq_decide Bool.not_true Bool.not_false Bool.not_eq_true' Bool.or_true Bool.true_or Bool.or_false Bool.false_or ge_iff_le gt_iff_lt and_assoc Bool.decide_eq_true beq_iff_eq beq_eq_false_iff_ne bne_iff_ne bne_self_eq_false if_true if_false Bool.and_eq_true Bool.or_eq_true Bool.and_eq_false_imp Bool.or_eq_false_iff Bool.not_eq_false' has Option.isSome_some Option.isSome_none Int.toNat_natCast Int.cast_ofNat_Int List.length_append xapp2 xapp xappS xappD xappB notInt srcOf srcB byteAV splice' xcut xcutS xcutF xcutB xcutN xcut0 cutL loOf hiOf evo xmake zelem xmax xcopy2 xcopyS xcopyB xnil xcut3 ixOf xclear2 xclearB List.getElem?_toArray xbin2 xnileq xempty xmkmap xmput xmputB xmputF isKey keyEq mfind xbin3 xeqs xeqop eqFs bothB leafEq xlook xlookB xlookF xbytes beq_c_n beq_n_c bne_c_n bne_n_c one_nil dxi dxic dbri rix dck reader blind opOk refOk Go.Op.operands Go.Call.operands List.contains_cons List.contains_nil dxg dxgc dbrg pck putD List.lookup_cons List.lookup_nil ts2 tb2 zl2 za2 Tryz.underlying2 ts3 tb3 zl3 za3 Tryz.underlying3 ts4 tb4 zl4 za4 Tryz.underlying4 ts5 tb5 zl5 za5 Tryz.underlying5 ts6 tb6 zl6 za6 Tryz.underlying6 ts7 tb7 za7 Tryz.underlying7 ts8 tb8 za8 Tryz.underlying8 ts9 tb9 zl9 za9 Tryz.underlying9 ts10 tb10 zl10 za10 Tryz.underlying10 ts11 tb11 zl11 za11 Tryz.underlying11 ts12 tb12 zl12 za12 Tryz.underlying12 ts13 tb13 za13 Tryz.underlying13 ts14 tb14 za14 Tryz.underlying14 ts18 tb18 za18 Tryz.underlying18 ts19 tb19 za19 Tryz.underlying19 ts21 tb21 zl21 za21 Tryz.underlying21 ts22 tb22 zl22 za22 Tryz.underlying22 ts24 tb24 za24 Tryz.underlying24 ts25 tb25 za25 Tryz.underlying25 ts27 tb27 zl27 za27 Tryz.underlying27 ts35 tb35 zl35 za35 Tryz.underlying35 ts36 tb36 za36 Tryz.underlying36 ts37 tb37 za37 Tryz.underlying37 ts39 tb39 zl39 za39 Tryz.underlying39 ts41 tb41 za41 Tryz.underlying41 ts42 tb42 za42 Tryz.underlying42 ts63 tb63 zl63 za63 Tryz.underlying63 ts64 tb64 zl64 za64 Tryz.underlying64 ts65 tb65 za65 Tryz.underlying65 ts66 tb66 za66 Tryz.underlying66 ts67 tb67 zl67 za67 Tryz.underlying67 ts69 tb69 za69 Tryz.underlying69 ts70 tb70 za70 Tryz.underlying70 ts73 tb73 za73 Tryz.underlying73 ts74 tb74 za74 Tryz.underlying74 ts75 tb75 zl75 za75 Tryz.underlying75 ts82 tb82 zl82 za82 Tryz.underlying82 ts96 tb96 za96 Tryz.underlying96 ts97 tb97 za97 Tryz.underlying97 ts103 tb103 za103 Tryz.underlying103 ts104 tb104 za104 Tryz.underlying104 ts109 tb109 zl109 za109 Tryz.underlying109 ts116 tb116 zl116 za116 Tryz.underlying116 ts117 tb117 za117 Tryz.underlying117 ts118 tb118 za118 Tryz.underlying118 ts120 tb120 zl120 za120 Tryz.underlying120 ts124 tb124 zl124 za124 Tryz.underlying124 ts126 tb126 za126 Tryz.underlying126 ts128 tb128 zl128 za128 Tryz.underlying128 ts130 tb130 za130 Tryz.underlying130 ts131 tb131 za131 Tryz.underlying131 ts153 tb153 zl153 za153 Tryz.underlying153 ts167 tb167 zl167 za167 Tryz.underlying167 ts171 tb171 zl171 za171 Tryz.underlying171 ts177 tb177 zl177 za177 Tryz.underlying177 ts183 tb183 zl183 za183 Tryz.underlying183 ts189 tb189 zl189 za189 Tryz.underlying189 ts191 tb191 zl191 za191 Tryz.underlying191 ts195 tb195 za195 Tryz.underlying195 ts196 tb196 za196 Tryz.underlying196 ts198 tb198 zl198 za198 Tryz.underlying198 ts203 tb203 Tryz.underlying203 ts209 tb209 za209 Tryz.underlying209 ts210 tb210 za210 Tryz.underlying210 ts211 tb211 Tryz.underlying211 ts216 tb216 za216 Tryz.underlying216 ts217 tb217 za217 Tryz.underlying217 ts220 tb220 Tryz.underlying220 ts225 tb225 Tryz.underlying225 ts226 tb226 Tryz.underlying226 ts227 tb227 za227 Tryz.underlying227 ts228 tb228 za228 Tryz.underlying228 ts232 tb232 zl232 za232 Tryz.underlying232 ts233 tb233 zl233 za233 Tryz.underlying233 ts235 tb235 zl235 za235 Tryz.underlying235 ts236 tb236 zl236 za236 Tryz.underlying236 ts237 tb237 za237 Tryz.underlying237 ts238 tb238 za238 Tryz.underlying238

def digB (c : UInt8) : Bool := digI c.toNat
def capB (c : UInt8) : Bool := capI c.toNat
def digs (s : List UInt8) : List UInt8 := s.takeWhile digB
def caps (s : List UInt8) : List UInt8 := s.dropWhile digB

theorem takeWhile_at {p : UInt8 → Bool} : ∀ {s : List UInt8} {k : Nat}, k ≤ s.length → (s.take k).all p = true → (k = s.length ∨ p (s.getD k 0) = false) → s.takeWhile p = s.take k ∧ s.dropWhile p = s.drop k
  | [], k, hk, _, _ => by simp
  | c :: s, 0, _, _, e => by
    rcases e with e | e
    · simp at e
    · simp at e; simp [e]
  | c :: s, k + 1, hk, h, e => by
    simp only [List.take_succ_cons, List.all_cons, Bool.and_eq_true] at h
    have ih := takeWhile_at (s := s) (k := k) (by simpa using hk) h.2 (by simpa using e)
    simp [h.1, ih.1, ih.2]

def numberL (s : List UInt8) : Bool :=
  (caps s).all capB && (!(decide (((caps s).length : Int) > 5) || Lib.hasSuffix (caps s) [65]) &&
    (if digs s = [48] then caps s != [] else decide (1 ≤ (digs s).length) && (decide ((digs s).length ≤ 3) && ((s.getD 0 0).toNat : Int) != 48)))

set_option maxHeartbeats 1000000 in
theorem isNumber_pc' (s : List UInt8) (hs : s.length < 1000000) : Pc Tryz.prog 24 [.str s] (· = .bool (numberL s)) := by
  refine pc_intro (ct_intro Tryz.func24 rfl Tryz.ntmps24 hB24 (by simp) fun h ρ w => go (N := 56) Tryz.ntmps24 300 ?_)
  simp only [go_sem, Nat.reduceAdd, Nat.reduceMul, Nat.reduceSub, Nat.reduceBEq, Nat.reduceLT, Nat.reduceLeDiff, reduceIte, reduceCtorEq, Int.reduceToNat, Int.reduceLE, Int.reduceLT, Int.reduceNe, Int.reduceMul, Int.reduceAdd, Int.reduceSub, Int.reduceDiv, Int.reduceMod, Int.reduceEq, Int.reduceGE, Int.reduceGT, Int.reduceNeg, Int.reduceBEq, Int.reduceBNe, Nat.reduceEqDiff]
  refine aloopX (ι := Nat) (κ := Unit) (fun i => s.length - i) (fun i => [(3, .int .i64 i), (0, .str s)]) (fun _ => []) (fun i => i ≤ s.length ∧ (s.take i).all digB = true)
    (fun _ => [(3, .int .i64 (digs s).length), (0, .str s)]) (fun _ => []) (fun _ => s = digs s ++ caps s) 0 ⟨by omega, by simp⟩ ?_ ?_ ?_
  · refine Shift.weak ?_
    simp only [wk, go_sem, Nat.reduceAdd, Nat.reduceMul, Nat.reduceSub, Nat.reduceBEq, Nat.reduceLT, Nat.reduceLeDiff, reduceIte, reduceCtorEq, Int.reduceToNat, Int.reduceLE, Int.reduceLT, Int.reduceNe, Int.reduceMul, Int.reduceAdd, Int.reduceSub, Int.reduceDiv, Int.reduceMod, Int.reduceEq, Int.reduceGE, Int.reduceGT, Int.reduceNeg, Int.reduceBEq, Int.reduceBNe, Nat.reduceEqDiff]
  · rintro - hd
    have hdl : (digs s).length ≤ s.length := (congrArg List.length hd).symm ▸ by simp
    have edr : List.drop (digs s).length s = caps s := (congrArg (List.drop (digs s).length) hd).trans (by simp)
    have etk : List.take (digs s).length s = digs s := (congrArg (List.take (digs s).length) hd).trans (by simp)
    have hcl : (caps s).length ≤ s.length := (congrArg List.length hd).symm ▸ by simp
    refine go (N := 56) Tryz.ntmps24 300 ?_
    simp only [go_sem, Nat.reduceAdd, Nat.reduceMul, Nat.reduceSub, Nat.reduceBEq, Nat.reduceLT, Nat.reduceLeDiff, reduceIte, reduceCtorEq, Int.reduceToNat, Int.reduceLE, Int.reduceLT, Int.reduceNe, Int.reduceMul, Int.reduceAdd, Int.reduceSub, Int.reduceDiv, Int.reduceMod, Int.reduceEq, Int.reduceGE, Int.reduceGT, Int.reduceNeg, Int.reduceBEq, Int.reduceBNe, Nat.reduceEqDiff, edr]
    refine ⟨by omega, by omega, by omega, ?_⟩
    refine aloopX (ι := Nat) (κ := Unit) (fun i => (caps s).length - i) (fun i => [(23, .int .i64 i), (22, .int .i64 (caps s).length), (4, .str (caps s)), (3, .int .i64 (digs s).length), (0, .str s)]) (fun _ => []) (fun i => i ≤ (caps s).length ∧ ((caps s).take i).all capB = true)
      (fun _ => [(4, .str (caps s)), (3, .int .i64 (digs s).length), (0, .str s)]) (fun _ => []) (fun _ => (caps s).all capB = true) 0 ⟨by omega, by simp⟩ ?_ ?_ ?_
    · refine Shift.weak ?_
      simp only [wk, go_sem, Nat.reduceAdd, Nat.reduceMul, Nat.reduceSub, Nat.reduceBEq, Nat.reduceLT, Nat.reduceLeDiff, reduceIte, reduceCtorEq, Int.reduceToNat, Int.reduceLE, Int.reduceLT, Int.reduceNe, Int.reduceMul, Int.reduceAdd, Int.reduceSub, Int.reduceDiv, Int.reduceMod, Int.reduceEq, Int.reduceGE, Int.reduceGT, Int.reduceNeg, Int.reduceBEq, Int.reduceBNe, Nat.reduceEqDiff]
    · rintro - hc
      by_cases h5 : ((caps s).length : Int) > 5
      · have d5 : decide (((caps s).length : Int) > 5) = true := by simpa using h5
        refine go (N := 56) Tryz.ntmps24 300 ?_
        simp only [go_sem, Nat.reduceAdd, Nat.reduceMul, Nat.reduceSub, Nat.reduceBEq, Nat.reduceLT, Nat.reduceLeDiff, reduceIte, reduceCtorEq, Int.reduceToNat, Int.reduceLE, Int.reduceLT, Int.reduceNe, Int.reduceMul, Int.reduceAdd, Int.reduceSub, Int.reduceDiv, Int.reduceMod, Int.reduceEq, Int.reduceGE, Int.reduceGT, Int.reduceNeg, Int.reduceBEq, Int.reduceBNe, Nat.reduceEqDiff, d5]
        exact aret [2] rfl ⟨by simp [resV, Av.get, numberL, d5], rfl⟩
      have d5 : decide (((caps s).length : Int) > 5) = false := by simpa using h5
      refine go (N := 56) Tryz.ntmps24 300 ?_
      simp only [go_sem, Nat.reduceAdd, Nat.reduceMul, Nat.reduceSub, Nat.reduceBEq, Nat.reduceLT, Nat.reduceLeDiff, reduceIte, reduceCtorEq, Int.reduceToNat, Int.reduceLE, Int.reduceLT, Int.reduceNe, Int.reduceMul, Int.reduceAdd, Int.reduceSub, Int.reduceDiv, Int.reduceMod, Int.reduceEq, Int.reduceGE, Int.reduceGT, Int.reduceNeg, Int.reduceBEq, Int.reduceBNe, Nat.reduceEqDiff, d5]
      refine pcall1 (hasSuffix_pc (caps s) [65] (by omega)) rfl (N := 56) Tryz.ntmps24 rfl (go (N := 56) Tryz.ntmps24 300 ?_)
      cases e6 : Lib.hasSuffix (caps s) [65] with
      | true =>
        simp only [go_sem, Nat.reduceAdd, Nat.reduceMul, Nat.reduceSub, Nat.reduceBEq, Nat.reduceLT, Nat.reduceLeDiff, reduceIte, reduceCtorEq, Int.reduceToNat, Int.reduceLE, Int.reduceLT, Int.reduceNe, Int.reduceMul, Int.reduceAdd, Int.reduceSub, Int.reduceDiv, Int.reduceMod, Int.reduceEq, Int.reduceGE, Int.reduceGT, Int.reduceNeg, Int.reduceBEq, Int.reduceBNe, Nat.reduceEqDiff]
        exact aret [2] rfl ⟨by simp [resV, Av.get, numberL, e6], rfl⟩
      | false =>
      by_cases h7 : digs s = [48]
      · have d7 : (digs s == [48]) = true := by simpa using h7
        simp only [go_sem, Nat.reduceAdd, Nat.reduceMul, Nat.reduceSub, Nat.reduceBEq, Nat.reduceLT, Nat.reduceLeDiff, reduceIte, reduceCtorEq, Int.reduceToNat, Int.reduceLE, Int.reduceLT, Int.reduceNe, Int.reduceMul, Int.reduceAdd, Int.reduceSub, Int.reduceDiv, Int.reduceMod, Int.reduceEq, Int.reduceGE, Int.reduceGT, Int.reduceNeg, Int.reduceBEq, Int.reduceBNe, Nat.reduceEqDiff, etk, d7]
        refine ⟨by omega, by omega, ?_⟩
        exact aret [2] rfl ⟨by simp [resV, Av.get, numberL, h7, d5, e6, hc], rfl⟩
      have d7 : (digs s == [48]) = false := by simpa using h7
      by_cases h8 : ((digs s).length : Int) ≥ 1
      · have d8 : decide (((digs s).length : Int) ≥ 1) = true := by simpa using h8
        have d8' : decide (1 ≤ (digs s).length) = true := by simp; omega
        by_cases h9 : ((digs s).length : Int) ≤ 3
        · have d9 : decide (((digs s).length : Int) ≤ 3) = true := by simpa using h9
          have d9' : decide ((digs s).length ≤ 3) = true := by simp; omega
          simp only [go_sem, Nat.reduceAdd, Nat.reduceMul, Nat.reduceSub, Nat.reduceBEq, Nat.reduceLT, Nat.reduceLeDiff, reduceIte, reduceCtorEq, Int.reduceToNat, Int.reduceLE, Int.reduceLT, Int.reduceNe, Int.reduceMul, Int.reduceAdd, Int.reduceSub, Int.reduceDiv, Int.reduceMod, Int.reduceEq, Int.reduceGE, Int.reduceGT, Int.reduceNeg, Int.reduceBEq, Int.reduceBNe, Nat.reduceEqDiff, etk, d7, d8, d9]
          refine ⟨by omega, by omega, by omega, ?_⟩
          exact aret [2] rfl ⟨by simp only [resV, Av.get, numberL, d5, e6, hc, if_neg h7, d8', d9']; rfl, rfl⟩
        · have d9 : decide (((digs s).length : Int) ≤ 3) = false := by simpa using h9
          have d9' : decide ((digs s).length ≤ 3) = false := by simp; omega
          simp only [go_sem, Nat.reduceAdd, Nat.reduceMul, Nat.reduceSub, Nat.reduceBEq, Nat.reduceLT, Nat.reduceLeDiff, reduceIte, reduceCtorEq, Int.reduceToNat, Int.reduceLE, Int.reduceLT, Int.reduceNe, Int.reduceMul, Int.reduceAdd, Int.reduceSub, Int.reduceDiv, Int.reduceMod, Int.reduceEq, Int.reduceGE, Int.reduceGT, Int.reduceNeg, Int.reduceBEq, Int.reduceBNe, Nat.reduceEqDiff, etk, d7, d8, d9]
          refine ⟨by omega, by omega, ?_⟩
          exact aret [2] rfl ⟨by simp only [resV, Av.get, numberL, d5, e6, hc, if_neg h7, d8', d9']; rfl, rfl⟩
      · have d8 : decide (((digs s).length : Int) ≥ 1) = false := by simpa using h8
        have d8' : decide (1 ≤ (digs s).length) = false := decide_eq_false (by omega)
        simp only [go_sem, Nat.reduceAdd, Nat.reduceMul, Nat.reduceSub, Nat.reduceBEq, Nat.reduceLT, Nat.reduceLeDiff, reduceIte, reduceCtorEq, Int.reduceToNat, Int.reduceLE, Int.reduceLT, Int.reduceNe, Int.reduceMul, Int.reduceAdd, Int.reduceSub, Int.reduceDiv, Int.reduceMod, Int.reduceEq, Int.reduceGE, Int.reduceGT, Int.reduceNeg, Int.reduceBEq, Int.reduceBNe, Nat.reduceEqDiff, etk, d7, d8]
        refine ⟨by omega, by omega, ?_⟩
        exact aret [2] rfl ⟨by simp only [resV, Av.get, numberL, d5, e6, hc, if_neg h7, d8']; rfl, rfl⟩
    · rintro i ⟨g1, g2⟩ J Q hJ hQ
      refine go (N := 56) Tryz.ntmps24 300 ?_
      by_cases hi : (i : Int) < (caps s).length
      · have hil : i < (caps s).length := by omega
        have hgd : (caps s).getD i 0 = (caps s)[i] := by simp [List.getD, hil]
        simp only [go_sem, Nat.reduceAdd, Nat.reduceMul, Nat.reduceSub, Nat.reduceBEq, Nat.reduceLT, Nat.reduceLeDiff, reduceIte, reduceCtorEq, Int.reduceToNat, Int.reduceLE, Int.reduceLT, Int.reduceNe, Int.reduceMul, Int.reduceAdd, Int.reduceSub, Int.reduceDiv, Int.reduceMod, Int.reduceEq, Int.reduceGE, Int.reduceGT, Int.reduceNeg, Int.reduceBEq, Int.reduceBNe, Nat.reduceEqDiff, hi, hgd]
        refine ⟨by omega, ?_⟩
        refine pcall1 (isCapital_pc _) rfl (N := 56) Tryz.ntmps24 rfl (go (N := 56) Tryz.ntmps24 300 ?_)
        cases c1 : capI ((caps s)[i].toNat : Int) with
        | true =>
          simp only [go_sem, Nat.reduceAdd, Nat.reduceMul, Nat.reduceSub, Nat.reduceBEq, Nat.reduceLT, Nat.reduceLeDiff, reduceIte, reduceCtorEq, Int.reduceToNat, Int.reduceLE, Int.reduceLT, Int.reduceNe, Int.reduceMul, Int.reduceAdd, Int.reduceSub, Int.reduceDiv, Int.reduceMod, Int.reduceEq, Int.reduceGE, Int.reduceGT, Int.reduceNeg, Int.reduceBEq, Int.reduceBNe, Nat.reduceEqDiff]
          rw [show (i : Int) + 1 = ((i + 1 : Nat) : Int) by omega]
          repeat refine And.intro (by omega) ?_
          refine ainv (hJ (i + 1) ⟨by omega, all_take_succ hil g2 c1⟩ (by omega)) (Shift.weak ?_)
          simp only [wk, go_sem, Nat.reduceAdd, Nat.reduceMul, Nat.reduceSub, Nat.reduceBEq, Nat.reduceLT, Nat.reduceLeDiff, reduceIte, reduceCtorEq, Int.reduceToNat, Int.reduceLE, Int.reduceLT, Int.reduceNe, Int.reduceMul, Int.reduceAdd, Int.reduceSub, Int.reduceDiv, Int.reduceMod, Int.reduceEq, Int.reduceGE, Int.reduceGT, Int.reduceNeg, Int.reduceBEq, Int.reduceBNe, Nat.reduceEqDiff]
        | false =>
          simp only [go_sem, Nat.reduceAdd, Nat.reduceMul, Nat.reduceSub, Nat.reduceBEq, Nat.reduceLT, Nat.reduceLeDiff, reduceIte, reduceCtorEq, Int.reduceToNat, Int.reduceLE, Int.reduceLT, Int.reduceNe, Int.reduceMul, Int.reduceAdd, Int.reduceSub, Int.reduceDiv, Int.reduceMod, Int.reduceEq, Int.reduceGE, Int.reduceGT, Int.reduceNeg, Int.reduceBEq, Int.reduceBNe, Nat.reduceEqDiff]
          exact aret [2] rfl ⟨by simp [resV, Av.get, numberL, all_false_at hil (p := capB) c1], rfl⟩
      · simp only [go_sem, Nat.reduceAdd, Nat.reduceMul, Nat.reduceSub, Nat.reduceBEq, Nat.reduceLT, Nat.reduceLeDiff, reduceIte, reduceCtorEq, Int.reduceToNat, Int.reduceLE, Int.reduceLT, Int.reduceNe, Int.reduceMul, Int.reduceAdd, Int.reduceSub, Int.reduceDiv, Int.reduceMod, Int.reduceEq, Int.reduceGE, Int.reduceGT, Int.reduceNeg, Int.reduceBEq, Int.reduceBNe, Nat.reduceEqDiff, hi]
        have hall : (caps s).all capB = true := by
          have ht : (caps s).take i = caps s := List.take_of_length_le (by omega)
          rw [ht] at g2; exact g2
        refine ainv (hQ () hall) (Shift.weak ?_)
        simp only [wk, go_sem, Nat.reduceAdd, Nat.reduceMul, Nat.reduceSub, Nat.reduceBEq, Nat.reduceLT, Nat.reduceLeDiff, reduceIte, reduceCtorEq, Int.reduceToNat, Int.reduceLE, Int.reduceLT, Int.reduceNe, Int.reduceMul, Int.reduceAdd, Int.reduceSub, Int.reduceDiv, Int.reduceMod, Int.reduceEq, Int.reduceGE, Int.reduceGT, Int.reduceNeg, Int.reduceBEq, Int.reduceBNe, Nat.reduceEqDiff]
  · rintro i ⟨g1, g2⟩ J Q hJ hQ
    have out : (i = s.length ∨ digB (s.getD i 0) = false) → ((digs s).length = i ∧ s = digs s ++ caps s) := fun e => by
      obtain ⟨e1, e2⟩ := takeWhile_at g1 g2 e
      exact ⟨by rw [digs, e1]; simp; omega, by simp [digs, caps]⟩
    refine go (N := 56) Tryz.ntmps24 300 ?_
    by_cases hi : (i : Int) < s.length
    · have hil : i < s.length := by omega
      have hgd : s.getD i 0 = s[i] := by simp [List.getD, hil]
      simp only [go_sem, Nat.reduceAdd, Nat.reduceMul, Nat.reduceSub, Nat.reduceBEq, Nat.reduceLT, Nat.reduceLeDiff, reduceIte, reduceCtorEq, Int.reduceToNat, Int.reduceLE, Int.reduceLT, Int.reduceNe, Int.reduceMul, Int.reduceAdd, Int.reduceSub, Int.reduceDiv, Int.reduceMod, Int.reduceEq, Int.reduceGE, Int.reduceGT, Int.reduceNeg, Int.reduceBEq, Int.reduceBNe, Nat.reduceEqDiff, hi, hgd]
      refine ⟨by omega, ?_⟩
      refine pcall1 (isDigit_pc _) rfl (N := 56) Tryz.ntmps24 rfl (go (N := 56) Tryz.ntmps24 300 ?_)
      cases c1 : digI (s[i].toNat : Int) with
      | true =>
        simp only [go_sem, Nat.reduceAdd, Nat.reduceMul, Nat.reduceSub, Nat.reduceBEq, Nat.reduceLT, Nat.reduceLeDiff, reduceIte, reduceCtorEq, Int.reduceToNat, Int.reduceLE, Int.reduceLT, Int.reduceNe, Int.reduceMul, Int.reduceAdd, Int.reduceSub, Int.reduceDiv, Int.reduceMod, Int.reduceEq, Int.reduceGE, Int.reduceGT, Int.reduceNeg, Int.reduceBEq, Int.reduceBNe, Nat.reduceEqDiff]
        rw [show (i : Int) + 1 = ((i + 1 : Nat) : Int) by omega]
        repeat refine And.intro (by omega) ?_
        refine ainv (hJ (i + 1) ⟨by omega, all_take_succ hil g2 c1⟩ (by omega)) (Shift.weak ?_)
        simp only [wk, go_sem, Nat.reduceAdd, Nat.reduceMul, Nat.reduceSub, Nat.reduceBEq, Nat.reduceLT, Nat.reduceLeDiff, reduceIte, reduceCtorEq, Int.reduceToNat, Int.reduceLE, Int.reduceLT, Int.reduceNe, Int.reduceMul, Int.reduceAdd, Int.reduceSub, Int.reduceDiv, Int.reduceMod, Int.reduceEq, Int.reduceGE, Int.reduceGT, Int.reduceNeg, Int.reduceBEq, Int.reduceBNe, Nat.reduceEqDiff]
      | false =>
        obtain ⟨e1, e2⟩ := out (.inr (by rw [hgd]; exact c1))
        simp only [go_sem, Nat.reduceAdd, Nat.reduceMul, Nat.reduceSub, Nat.reduceBEq, Nat.reduceLT, Nat.reduceLeDiff, reduceIte, reduceCtorEq, Int.reduceToNat, Int.reduceLE, Int.reduceLT, Int.reduceNe, Int.reduceMul, Int.reduceAdd, Int.reduceSub, Int.reduceDiv, Int.reduceMod, Int.reduceEq, Int.reduceGE, Int.reduceGT, Int.reduceNeg, Int.reduceBEq, Int.reduceBNe, Nat.reduceEqDiff]
        refine ainv (hQ () e2) (Shift.weak ?_)
        rw [e1]
        simp only [wk, go_sem, Nat.reduceAdd, Nat.reduceMul, Nat.reduceSub, Nat.reduceBEq, Nat.reduceLT, Nat.reduceLeDiff, reduceIte, reduceCtorEq, Int.reduceToNat, Int.reduceLE, Int.reduceLT, Int.reduceNe, Int.reduceMul, Int.reduceAdd, Int.reduceSub, Int.reduceDiv, Int.reduceMod, Int.reduceEq, Int.reduceGE, Int.reduceGT, Int.reduceNeg, Int.reduceBEq, Int.reduceBNe, Nat.reduceEqDiff]
    · simp only [go_sem, Nat.reduceAdd, Nat.reduceMul, Nat.reduceSub, Nat.reduceBEq, Nat.reduceLT, Nat.reduceLeDiff, reduceIte, reduceCtorEq, Int.reduceToNat, Int.reduceLE, Int.reduceLT, Int.reduceNe, Int.reduceMul, Int.reduceAdd, Int.reduceSub, Int.reduceDiv, Int.reduceMod, Int.reduceEq, Int.reduceGE, Int.reduceGT, Int.reduceNeg, Int.reduceBEq, Int.reduceBNe, Nat.reduceEqDiff, hi]
      obtain ⟨e1, e2⟩ := out (.inl (by omega))
      refine ainv (hQ () e2) (Shift.weak ?_)
      rw [e1]
      simp only [wk, go_sem, Nat.reduceAdd, Nat.reduceMul, Nat.reduceSub, Nat.reduceBEq, Nat.reduceLT, Nat.reduceLeDiff, reduceIte, reduceCtorEq, Int.reduceToNat, Int.reduceLE, Int.reduceLT, Int.reduceNe, Int.reduceMul, Int.reduceAdd, Int.reduceSub, Int.reduceDiv, Int.reduceMod, Int.reduceEq, Int.reduceGE, Int.reduceGT, Int.reduceNeg, Int.reduceBEq, Int.reduceBNe, Nat.reduceEqDiff]

theorem same_below {w w' : World} (b : Below w.heap.size w w') : Same w w' := ⟨b.os, b.tape, b.output, b.size, b.block⟩
theorem one_str (s : List UInt8) : ∀ h vs', RL h Lf0 true vs' [.str s] → vs' = [.string ⟨s.toArray⟩] := by
  intro h vs' r
  cases r with | cons r1 r => cases r; rw [rv_str r1]
theorem one_int (k : IntKind) (n : Int) : ∀ h vs', RL h Lf0 true vs' [.int k n] → vs' = [.int k n] := by
  intro h vs' r
  cases r with | cons r1 r => cases r; rw [rv_int r1]
theorem atoi_pc (s : List UInt8) (n : Int) (hl : s.length ≤ 18) (h : Lib.atoi s = some n) : Pc Tryz.prog 88 [.str s] (· = .tup [.int .i64 n, .raw .nilIface]) :=
  pc_lib [_] (.tuple #[.int .i64 n, .nilIface]) hB88 (one_str s) (fun h => .tup [_, _] [_, _] (.cons (.int _ _) (.cons (.raw _) .nil)))
    fun w => (Any.strconv_Atoi Tryz.lays172 ⟨s.toArray⟩ n (by simpa [ByteArray.size] using hl) h w).mono fun e w' ⟨h1, t, h2⟩ => ⟨h1, h2 ▸ same_below (Lib.bytesWorld_below _ _ _)⟩
theorem compare_str_pc (a b : List UInt8) : Pc Tryz.prog 60 [.str a, .str b] (· = .int .i64 (Lib.compareBytes a b)) :=
  pc_lib [_, _] (.int .i64 (Lib.compareBytes a b)) hB60 (two_strs a b) (fun h => .int _ _) fun w => (Any.strings_Compare Tryz.lays106 ⟨a.toArray⟩ ⟨b.toArray⟩ w).mono fun e w' ⟨h1, h2⟩ => ⟨h1, h2 ▸ .refl w⟩
theorem isNaN_int_pc (x : Int) : Pc Tryz.prog 89 [.int .i64 x] (· = .bool false) := by
  refine pc_intro (ct_intro Tryz.func89 rfl Tryz.ntmps89 hB89 (by simp) fun h ρ w => go (N := 6) Tryz.ntmps89 300 ?_)
  simp only [go_sem, Nat.reduceAdd, Nat.reduceMul, Nat.reduceSub, Nat.reduceBEq, Nat.reduceLT, Nat.reduceLeDiff, reduceIte, reduceCtorEq, Int.reduceToNat, Int.reduceLE, Int.reduceLT, Int.reduceNe, Int.reduceMul, Int.reduceAdd, Int.reduceSub, Int.reduceDiv, Int.reduceMod, Int.reduceEq, Int.reduceGE, Int.reduceGT, Int.reduceNeg, Int.reduceBEq, Int.reduceBNe, Nat.reduceEqDiff]
  exact aret [2] rfl ⟨by simp [resV, Av.get], rfl⟩

def cmpI (x y : Int) : Int := if x < y then -1 else if x > y then 1 else 0

theorem cmp_int_pc (x y : Int) : Pc Tryz.prog 59 [.int .i64 x, .int .i64 y] (· = .int .i64 (cmpI x y)) := by
  refine pc_intro (ct_intro Tryz.func59 rfl Tryz.ntmps59 hB59 (by simp) fun h ρ w => go (N := 20) Tryz.ntmps59 300 ?_)
  simp only [go_sem, Nat.reduceAdd, Nat.reduceMul, Nat.reduceSub, Nat.reduceBEq, Nat.reduceLT, Nat.reduceLeDiff, reduceIte, reduceCtorEq, Int.reduceToNat, Int.reduceLE, Int.reduceLT, Int.reduceNe, Int.reduceMul, Int.reduceAdd, Int.reduceSub, Int.reduceDiv, Int.reduceMod, Int.reduceEq, Int.reduceGE, Int.reduceGT, Int.reduceNeg, Int.reduceBEq, Int.reduceBNe, Nat.reduceEqDiff]
  refine pcall1 (isNaN_int_pc _) rfl (N := 20) Tryz.ntmps59 rfl (go (N := 20) Tryz.ntmps59 300 ?_)
  simp only [go_sem, Nat.reduceAdd, Nat.reduceMul, Nat.reduceSub, Nat.reduceBEq, Nat.reduceLT, Nat.reduceLeDiff, reduceIte, reduceCtorEq, Int.reduceToNat, Int.reduceLE, Int.reduceLT, Int.reduceNe, Int.reduceMul, Int.reduceAdd, Int.reduceSub, Int.reduceDiv, Int.reduceMod, Int.reduceEq, Int.reduceGE, Int.reduceGT, Int.reduceNeg, Int.reduceBEq, Int.reduceBNe, Nat.reduceEqDiff]
  refine pcall1 (isNaN_int_pc _) rfl (N := 20) Tryz.ntmps59 rfl (go (N := 20) Tryz.ntmps59 300 ?_)
  by_cases h1 : x < y
  · have d1 : decide (x < y) = true := by simpa using h1
    simp only [go_sem, Nat.reduceAdd, Nat.reduceMul, Nat.reduceSub, Nat.reduceBEq, Nat.reduceLT, Nat.reduceLeDiff, reduceIte, reduceCtorEq, Int.reduceToNat, Int.reduceLE, Int.reduceLT, Int.reduceNe, Int.reduceMul, Int.reduceAdd, Int.reduceSub, Int.reduceDiv, Int.reduceMod, Int.reduceEq, Int.reduceGE, Int.reduceGT, Int.reduceNeg, Int.reduceBEq, Int.reduceBNe, Nat.reduceEqDiff, d1]
    exact aret [4] rfl ⟨by simp [resV, Av.get, cmpI, h1], rfl⟩
  have d1 : decide (x < y) = false := by simpa using h1
  by_cases h2 : x > y
  · have d2 : decide (x > y) = true := by simpa using h2
    simp only [go_sem, Nat.reduceAdd, Nat.reduceMul, Nat.reduceSub, Nat.reduceBEq, Nat.reduceLT, Nat.reduceLeDiff, reduceIte, reduceCtorEq, Int.reduceToNat, Int.reduceLE, Int.reduceLT, Int.reduceNe, Int.reduceMul, Int.reduceAdd, Int.reduceSub, Int.reduceDiv, Int.reduceMod, Int.reduceEq, Int.reduceGE, Int.reduceGT, Int.reduceNeg, Int.reduceBEq, Int.reduceBNe, Nat.reduceEqDiff, d1, d2]
    exact aret [4] rfl ⟨by simp [resV, Av.get, cmpI, h1, h2], rfl⟩
  have d2 : decide (x > y) = false := by simpa using h2
  simp only [go_sem, Nat.reduceAdd, Nat.reduceMul, Nat.reduceSub, Nat.reduceBEq, Nat.reduceLT, Nat.reduceLeDiff, reduceIte, reduceCtorEq, Int.reduceToNat, Int.reduceLE, Int.reduceLT, Int.reduceNe, Int.reduceMul, Int.reduceAdd, Int.reduceSub, Int.reduceDiv, Int.reduceMod, Int.reduceEq, Int.reduceGE, Int.reduceGT, Int.reduceNeg, Int.reduceBEq, Int.reduceBNe, Nat.reduceEqDiff, d1, d2]
  exact aret [4] rfl ⟨by simp [resV, Av.get, cmpI, h1, h2], rfl⟩

def orI (x y : Int) : Int := if x = 0 then y else x

theorem or_pc (x y : Int) : Pc Tryz.prog 58 [.fz 1 [.int .i64 x, .int .i64 y]] (· = .int .i64 (orI x y)) := by
  refine pc_intro (ct_intro Tryz.func58 rfl Tryz.ntmps58 hB58 (by simp) fun h ρ w => go (N := 18) Tryz.ntmps58 300 ?_)
  simp only [go_sem, Nat.reduceAdd, Nat.reduceMul, Nat.reduceSub, Nat.reduceBEq, Nat.reduceLT, Nat.reduceLeDiff, reduceIte, reduceCtorEq, Int.reduceToNat, Int.reduceLE, Int.reduceLT, Int.reduceNe, Int.reduceMul, Int.reduceAdd, Int.reduceSub, Int.reduceDiv, Int.reduceMod, Int.reduceEq, Int.reduceGE, Int.reduceGT, Int.reduceNeg, Int.reduceBEq, Int.reduceBNe, Nat.reduceEqDiff]
  refine aenter (around (go (N := 18) Tryz.ntmps58 300 ?_))
  by_cases h1 : x = 0
  · have d1 : (x != 0) = false := by simpa using h1
    simp only [go_sem, Nat.reduceAdd, Nat.reduceMul, Nat.reduceSub, Nat.reduceBEq, Nat.reduceLT, Nat.reduceLeDiff, reduceIte, reduceCtorEq, Int.reduceToNat, Int.reduceLE, Int.reduceLT, Int.reduceNe, Int.reduceMul, Int.reduceAdd, Int.reduceSub, Int.reduceDiv, Int.reduceMod, Int.reduceEq, Int.reduceGE, Int.reduceGT, Int.reduceNeg, Int.reduceBEq, Int.reduceBNe, Nat.reduceEqDiff, d1]
    refine aagain (around (go (N := 18) Tryz.ntmps58 300 ?_))
    by_cases h2 : y = 0
    · have d2 : (y != 0) = false := by simpa using h2
      simp only [go_sem, Nat.reduceAdd, Nat.reduceMul, Nat.reduceSub, Nat.reduceBEq, Nat.reduceLT, Nat.reduceLeDiff, reduceIte, reduceCtorEq, Int.reduceToNat, Int.reduceLE, Int.reduceLT, Int.reduceNe, Int.reduceMul, Int.reduceAdd, Int.reduceSub, Int.reduceDiv, Int.reduceMod, Int.reduceEq, Int.reduceGE, Int.reduceGT, Int.reduceNeg, Int.reduceBEq, Int.reduceBNe, Nat.reduceEqDiff, d2]
      refine aagain (around (go (N := 18) Tryz.ntmps58 300 ?_))
      simp only [go_sem, Nat.reduceAdd, Nat.reduceMul, Nat.reduceSub, Nat.reduceBEq, Nat.reduceLT, Nat.reduceLeDiff, reduceIte, reduceCtorEq, Int.reduceToNat, Int.reduceLE, Int.reduceLT, Int.reduceNe, Int.reduceMul, Int.reduceAdd, Int.reduceSub, Int.reduceDiv, Int.reduceMod, Int.reduceEq, Int.reduceGE, Int.reduceGT, Int.reduceNeg, Int.reduceBEq, Int.reduceBNe, Nat.reduceEqDiff]
      exact aret [2] rfl ⟨by simp [resV, Av.get, orI, h1, h2], rfl⟩
    have d2 : (y != 0) = true := by simpa using h2
    simp only [go_sem, Nat.reduceAdd, Nat.reduceMul, Nat.reduceSub, Nat.reduceBEq, Nat.reduceLT, Nat.reduceLeDiff, reduceIte, reduceCtorEq, Int.reduceToNat, Int.reduceLE, Int.reduceLT, Int.reduceNe, Int.reduceMul, Int.reduceAdd, Int.reduceSub, Int.reduceDiv, Int.reduceMod, Int.reduceEq, Int.reduceGE, Int.reduceGT, Int.reduceNeg, Int.reduceBEq, Int.reduceBNe, Nat.reduceEqDiff, d2]
    exact aret [2] rfl ⟨by simp [resV, Av.get, orI, h1], rfl⟩
  have d1 : (x != 0) = true := by simpa using h1
  simp only [go_sem, Nat.reduceAdd, Nat.reduceMul, Nat.reduceSub, Nat.reduceBEq, Nat.reduceLT, Nat.reduceLeDiff, reduceIte, reduceCtorEq, Int.reduceToNat, Int.reduceLE, Int.reduceLT, Int.reduceNe, Int.reduceMul, Int.reduceAdd, Int.reduceSub, Int.reduceDiv, Int.reduceMod, Int.reduceEq, Int.reduceGE, Int.reduceGT, Int.reduceNeg, Int.reduceBEq, Int.reduceBNe, Nat.reduceEqDiff, d1]
  exact aret [2] rfl ⟨by simp [resV, Av.get, orI, h1], rfl⟩

end Go.Proofs.YtpjbbpilgfihbaaGreatDoor
/- A cell of a block that holds nil, told as an empty slice (frozen, or of one's own). Own work of this seat. -/
set_option linter.unusedSimpArgs false
set_option linter.unusedVariables false
namespace Go.Av
open Go Go.RowKit

def cellTo (n : Nat) (a a' : AV) : Prop := a' = a ∨ (a = .raw (.slice none 0 0) ∧ (a' = .sl n 0 0 0 ∨ ∃ es, a' = .fz es []))
def toC (n : Nat) : List AV → List AV → Prop
  | [], [] => True
  | a :: r, a' :: r' => cellTo n a a' ∧ toC n r r'
  | _, _ => False
theorem cellTo.refl {n : Nat} {a : AV} : cellTo n a a := .inl rfl
theorem cellTo.sl {n : Nat} : cellTo n (.raw (.slice none 0 0)) (.sl n 0 0 0) := .inr ⟨rfl, .inl rfl⟩
theorem cellTo.fz {n es : Nat} : cellTo n (.raw (.slice none 0 0)) (.fz es []) := .inr ⟨rfl, .inr ⟨es, rfl⟩⟩

section
variable {h : Mem} {ρ : Own} {s : List Blk} {w : World}
theorem toC_RL {n es : Nat} (hn : s[n]? = some (.arr es [])) : ∀ {l l' : List AV} {vs : List Value}, toC n l l' → RL h (Lf ρ s) false vs l → RL h (Lf ρ s) false vs l'
  | [], [], _, _, r => r
  | a :: l, a' :: l', _, t, r => by
    cases r with
    | cons r1 r2 =>
      refine .cons ?_ (toC_RL hn t.2 r2)
      rcases t.1 with rfl | ⟨rfl, rfl | ⟨e, rfl⟩⟩
      · exact r1
      · rw [inv_raw r1]
        exact .leaf ⟨rfl, by simp only [LfC, hn]; exact ⟨by simp, fun _ => .inl ⟨trivial, trivial, none, rfl⟩⟩⟩
      · rw [inv_raw r1]
        exact .fznil e
  | [], _ :: _, _, t, _ => t.elim
  | _ :: _, [], _, t, _ => t.elim

theorem Mine.recell (m : Mine h ρ s w) {id n es es' : Nat} {l l' : List AV} (hb : s[id]? = some (.arr es l)) (hlen : l'.length = l.length) (hcl : ∀ x ∈ l', (cellsOf x).length = es) (hn : s[n]? = some (.arr es' [])) (ht : toC n (flat l) (flat l')) :
    Mine h ρ (s.set id (.arr es l')) w ∧ Later h ρ s w h ρ (s.set id (.arr es l')) w := by
  have hid := (List.getElem?_eq_some_iff.1 hb).1
  have hk : ∀ v a, Lf ρ s v a → Lf ρ (s.set id (.arr es l')) v a := fun v a x => ⟨x.1, LfC_set (b' := .arr es l') hb (fun _ _ => rfl) (Or.inl ⟨rfl, hlen, rfl⟩) x.2⟩
  refine ⟨⟨m.mem, ?_, fun i hi => m.out i (by simpa using hi), m.inj, m.disj⟩, ⟨fun _ _ _ x => x, fun _ _ a b => (b a).elim, hk, rfl, rfl, rfl, Nat.le_refl _, fun _ _ _ => rfl, fun i _ t x => .inl ⟨i, t, x⟩⟩⟩
  intro i blk e
  by_cases hi : i = id
  · subst hi
    simp [hid] at e
    subst e
    rcases m.own i _ hb with ⟨h1, h2⟩ | ⟨g, tot, cur, t, h1, h2, h3, h4, h5, h6, h7, h8, h9⟩
    · exact .inl ⟨by subst h1; simpa using hlen, h2⟩
    · refine .inr ⟨g, tot, cur, t, h1, h2, h3, by omega, h5, h6, hcl, h8, ?_⟩
      rw [hlen]
      exact (toC_RL hn ht h9).mono (fun _ _ _ x => x) hk
  · rw [List.getElem?_set_ne (Ne.symm hi)] at e
    exact (m.own i blk e).mono (fun _ _ _ x => x) hk rfl (fun _ _ _ => rfl)
end

variable {c : Cx} {e : Env} {s : List Blk}
/-- a block whose cells with nil are told as empty slices: frozen ones, or the new block of one's own -/
theorem Shift.cells (id es' : Nat) {es : Nat} {l : List AV} (l' : List AV) (hb : s.getD id .dead = .arr es l) (hlen : l'.length = l.length) (hcl : ∀ x ∈ l', (cellsOf x).length = es) (ht : toC s.length (flat l) (flat l')) :
    Shift c e s e (List.set (s ++ [Blk.arr es' []]) id (Blk.arr es l')) := by
  rintro a w ⟨hh, ρ, hm, hlt, he, hdf, hsz, hX⟩
  obtain ⟨m1, l1⟩ := hm.pushNil es'
  have hid := sto_get hb
  have hlt' : id < s.length := (List.getElem?_eq_some_iff.1 hid).1
  obtain ⟨m2, l2⟩ := m1.recell (id := id) (n := s.length) (es' := es') (by rw [List.getElem?_append_left hlt']; exact hid) hlen hcl (by simp) ht
  exact ⟨hh, ρ, m2, hlt.trans (l1.trans l2), fun t => ((he t).mono l1.hle l1.keep).mono l2.hle l2.keep, hdf, hsz, c.hx.later hm (l1.trans l2) hX⟩
end Go.Av
/- The same state told with the first blocks alone. Own work of this seat. -/
set_option linter.unusedSimpArgs false
set_option linter.unusedVariables false
namespace Go.Av
open Go Go.RowKit

/-- a cell that refers to none but the first n blocks -/
def lowC (n : Nat) : AV → Bool
  | .sl m _ _ _ => decide (m < n)
  | .ptr m _ _ _ => decide (m < n)
  | .mp m => decide (m < n)
  | v => frozen v
def lowV (n : Nat) : AV → Bool
  | .agg r => r.all (lowC n)
  | .fn _ r => r.all (lowC n)
  | v => lowC n v
def lowB (n : Nat) : Blk → Bool
  | .arr _ l => (flat l).all (lowC n)
  | .mp es => es.all fun x => frozen x.1 && frozen x.2
  | .dead => true
def wkl (n : Nat) (e : Env) : Env → Prop
  | [] => True
  | (t, v) :: r => (lowV n v = true ∧ get e t = v) ∧ wkl n e r
def lowρ (ρ : Own) (n : Nat) : Own := fun i => if i < n then ρ i else none
theorem low_of_frozen {n : Nat} {v : AV} (h : frozen v = true) : lowC n v = true := by
  cases v <;> first | exact h | (simp [frozen] at h)
theorem low_all {n : Nat} {l : List AV} (h : l.all frozen = true) : l.all (lowC n) = true := by
  rw [List.all_eq_true] at h ⊢
  exact fun x hx => low_of_frozen (h x hx)

section
variable {h : Mem} {ρ : Own} {s : List Blk} {w : World} {n : Nat}
theorem LfC_low (hn : n ≤ s.length) {v : Value} {a : AV} (hl : lowC n a = true) (l : LfC ρ s v a) : LfC (lowρ ρ n) (s.take n) v a := by
  cases a with
  | sl i o x cp =>
    have hi : i < n := of_decide_eq_true hl
    simp only [LfC, List.getElem?_take, hi, if_true, lowρ] at l ⊢; exact l
  | ptr i m j o =>
    have hi : i < n := of_decide_eq_true hl
    simp only [LfC, List.getElem?_take, hi, if_true, lowρ] at l ⊢; exact l
  | mp i =>
    have hi : i < n := of_decide_eq_true hl
    simp only [LfC, List.getElem?_take, hi, if_true, lowρ] at l ⊢; exact l
  | _ => exact l.elim
theorem low_one (hn : n ≤ s.length) {v : Value} {a : AV} (hl : lowC n a = true) (r : RV h (Lf ρ s) false v a) : RV h (Lf (lowρ ρ n) (s.take n)) false v a := by
  have frz : frozen a = true → RV h (Lf (lowρ ρ n) (s.take n)) false v a := fun hf => (frz_one r hf).thaw (fun _ _ _ x => x)
  cases a with
  | sl i o x cp => exact .leaf ⟨(inv_sl r).1, LfC_low hn hl (inv_sl r).2⟩
  | ptr i m j o => exact .leaf ⟨(inv_ptr r).1, LfC_low hn hl (inv_ptr r).2⟩
  | mp i => exact .leaf ⟨(inv_mp r).1, LfC_low hn hl (inv_mp r).2⟩
  | _ => exact frz hl
theorem low_list (hn : n ≤ s.length) : ∀ {l : List AV} {vs : List Value}, l.all (lowC n) = true → RL h (Lf ρ s) false vs l → RL h (Lf (lowρ ρ n) (s.take n)) false vs l
  | [], _, _, r => by cases r; exact .nil
  | a :: l, _, hl, r => by
    simp only [List.all_cons, Bool.and_eq_true] at hl
    cases r with | cons r1 r2 => exact .cons (low_one hn hl.1 r1) (low_list hn hl.2 r2)

theorem Mine.low (m : Mine h ρ s w) (hn : n ≤ s.length) (hb : (s.take n).all (lowB n) = true) : Mine h (lowρ ρ n) (s.take n) w := by
  have hρ : ∀ i g t, lowρ ρ n i = some (g, t) → i < n ∧ ρ i = some (g, t) := by
    intro i g t e
    unfold lowρ at e
    split at e
    · exact ⟨by assumption, e⟩
    · cases e
  refine ⟨m.mem, ?_, ?_, ?_, ?_⟩
  · intro i b e
    have hi : i < n := by
      have := (List.getElem?_eq_some_iff.1 e).1
      simp at this; omega
    have hlow : lowB n b = true := List.all_eq_true.1 hb b (List.mem_of_getElem? e)
    rw [List.getElem?_take, if_pos hi] at e
    have o := m.own i b e
    have hρi : lowρ ρ n i = ρ i := by simp [lowρ, hi]
    cases b with
    | arr es l =>
      rcases o with ⟨h1, h2⟩ | ⟨g, tot, cur, t, h1, h2, h3, h4, h5, h6, h7, h8, h9⟩
      · exact .inl ⟨h1, hρi.trans h2⟩
      · exact .inr ⟨g, tot, cur, t, hρi.trans h1, h2, h3, h4, h5, h6, h7, h8, low_list hn hlow h9⟩
    | mp es =>
      obtain ⟨g, en, cl, h1, h2, h3, h4⟩ := o
      refine ⟨g, en, cl, hρi.trans h1, h2, h3, fun k x y hx hy => ?_⟩
      obtain ⟨p, q⟩ := h4 k x y hx hy
      simp only [lowB, List.all_eq_true, Bool.and_eq_true] at hlow
      have := hlow x (List.mem_of_getElem? hx)
      exact ⟨(frz_one p this.1).thaw (fun _ _ _ x => x), (frz_one q this.2).thaw (fun _ _ _ x => x)⟩
    | dead => exact hρi.trans o
  · intro i hi
    have : ¬ i < n := by simp at hi; omega
    simp [lowρ, this]
  · intro i j g t t' hi hj
    exact m.inj i j g t t' (hρ i g t hi).2 (hρ j g t' hj).2
  · intro i g t e
    exact m.disj i g t (hρ i g t e).2
end

variable {c : Cx} {e : Env} {s : List Blk}
theorem wkl_get {n : Nat} {e e' : Env} (h : wkl n e e') (t : Nat) : get e' t = .any ∨ (lowV n (get e' t) = true ∧ get e t = get e' t) := by
  induction e' with
  | nil => exact .inl rfl
  | cons x r ih =>
    obtain ⟨k, v⟩ := x
    simp only [get]
    by_cases hk : k = t
    · subst hk; simp; exact .inr h.1
    · have : (k == t) = false := by simpa using hk
      simp only [this, cond_false]
      exact ih h.2

/-- the first n blocks alone are told of: they, and the slots that are told of, refer to no other -/
theorem Shift.low (n : Nat) {e' : Env} (hc : c.sto.length ≤ n) (hn : n ≤ s.length) (hb : (s.take n).all (lowB n) = true) (hw : wkl n e e') : Shift c e s e' (s.take n) := by
  rintro a w ⟨hh, ρ, hm, hlt, he, hdf, hsz, hX⟩
  have low : ∀ v x, Lf c.ρ c.sto v x → Lf (lowρ ρ n) (s.take n) v x := by
    intro v x lf
    have l2 := hlt.keep v x lf
    refine ⟨lf.1, LfC_low hn ?_ l2.2⟩
    have hx := lf.2
    cases x <;> simp only [LfC] at hx
    · rename_i i o l cp
      cases hq : c.sto[i]? with
      | none => simp [hq] at hx
      | some y => exact decide_eq_true (Nat.lt_of_lt_of_le (List.getElem?_eq_some_iff.1 hq).1 hc)
    · rename_i i n j o
      cases hq : c.sto[i]? with
      | none => simp [hq] at hx
      | some y => exact decide_eq_true (Nat.lt_of_lt_of_le (List.getElem?_eq_some_iff.1 hq).1 hc)
    · rename_i i
      cases hq : c.sto[i]? with
      | none => simp [hq] at hx
      | some y => exact decide_eq_true (Nat.lt_of_lt_of_le (List.getElem?_eq_some_iff.1 hq).1 hc)
  have hρ : ∀ i g t, lowρ ρ n i = some (g, t) → ρ i = some (g, t) := by
    intro i g t e
    unfold lowρ at e
    split at e
    · exact e
    · cases e
  refine ⟨hh, lowρ ρ n, hm.low hn hb, ⟨hlt.hle, hlt.hnew, low, hlt.os, hlt.tape, hlt.output, hlt.size, hlt.block, fun i g t hi => hlt.newown i g t (hρ i g t hi)⟩, fun t => ?_, hdf, hsz, c.hx.fewer (fun i g t hi => ⟨i, t, hρ i g t hi⟩) hX⟩
  have hx := he t
  rcases wkl_get hw t with hq | ⟨h1, hq⟩
  · rw [hq]; exact .any _
  · rw [hq] at hx
    generalize Av.get e' t = y at h1 hx ⊢
    cases y with
    | agg r =>
      obtain ⟨vs, hv, rl⟩ := inv_agg hx
      rw [hv]
      exact .agg vs r (low_list hn h1 rl)
    | fn f r =>
      generalize a.tmps.getD t undef = u at hx ⊢
      cases hx with
      | leaf p => exact p.2.elim
      | fn _ vs _ rl => exact .fn f vs r (low_list hn h1 rl)
    | _ => exact low_one hn h1 hx
end Go.Av
