/- office.Join. Own work of this seat. -/
import Derived.Test.YtkomcdohejibmaaGreatDoorY31
import Derived.Test.YtkomcdohejibmaaGreatDoorY32
import Derived.Test.YtkomcdohejibmaaGreatDoorY22
import Derived.Test.YtkomcdohejibmaaGreatDoorY20
import Derived.Test.YtkomcdohejibmaaGreatDoorY15
import Derived.Test.YtkomcdohejibmaaGreatDoorY1
import Derived.Test.YtkomcdohejibmaaGreatDoorY17
import Derived.Lib.Builder
import Derived.Lib.AppendStr
import Derived.Lib.UnsafeStr
import Derived.WalkKit
import Derived.Test.YtkomcdohejibmaaGreatDoorY21
set_option maxRecDepth 100000
set_option linter.unusedSimpArgs false
set_option linter.unusedVariables false
namespace Go.Proofs.YtkomcdohejibmaaGreatDoor
open Go Go.Av Go.RowKit

/-- deeds by their stamps -/
def hM (o : List De) : List (AV × AV) := stM deA (o.map fun d => (d.st, d))
theorem hM_find (s : St) (o : List De) : (mfindS Tryz.prog stFs (stA s) (hM o) 0 = some none ∧ ∀ x ∈ o, x.st ≠ s) ∨ ∃ i v, mfindS Tryz.prog stFs (stA s) (hM o) 0 = some (some (i, deA v)) ∧ v ∈ o ∧ v.st = s := by
  rcases stM_find deA s (o.map fun d => (d.st, d)) 0 with ⟨h1, h2⟩ | ⟨i, v, h1, h2, _⟩
  · exact .inl ⟨h1, fun x hx => h2 (x.st, x) (List.mem_map.2 ⟨x, hx, rfl⟩)⟩
  · rw [List.getElem?_map] at h2
    obtain ⟨k, hk, e⟩ := Option.map_eq_some_iff.1 h2
    have e1 : k.st = s := congrArg Prod.fst e
    have e2 : k = v := congrArg Prod.snd e
    subst e2
    exact .inr ⟨0 + i, k, h1, List.mem_of_getElem? hk, e1⟩
theorem hM_push (o : List De) (d : De) : hM o ++ [(stA d.st, deA d)] = hM (o ++ [d]) := by simp [hM, stM]
theorem hM_map (o : List De) : hM o = o.map fun d => (stA d.st, deA d) := by simp [hM, stM]
theorem low_hM (n : Nat) (o : List De) : lowB n (.mp (hM o)) = true := by
  show (hM o).all _ = true
  rw [hM_map, List.all_map, List.all_eq_true]
  intro x hx
  rfl

/-- a union without a clash, that is right if it is put in order -/
def CanJoin (a b : List De) : Prop := CkOk a ∧ b.length ≤ 500 ∧ (∀ x ∈ a ++ b, ∀ y ∈ a ++ b, x.st = y.st → x = y) ∧ ∀ l, Srt l → (∀ d, d ∈ l ↔ d ∈ a ∨ d ∈ b) → CkOk l
theorem srt_sorted {o l : List De} (hp : l.Perm o) (hs : l.Pairwise fun x y => ¬ stLt y.st x.st) (hd : o.Pairwise fun x y => x.st ≠ y.st) : Srt l := by
  have h2 : l.Pairwise fun x y => x.st ≠ y.st := hp.symm.pairwise hd (fun h => Ne.symm h)
  exact hs.imp₂ (fun x y h1 h2 => by
    apply Classical.byContradiction
    intro h3
    exact h2 (stLt_total h3 h1)) h2
end Go.Proofs.YtkomcdohejibmaaGreatDoor
/- The stream of numbers: one contract each. Own work of this seat. -/
namespace Go.Proofs.YtkomcdohejibmaaGreatDoor
open Go Go.Av Go.RowKit
set_option maxRecDepth 100000
set_option linter.unusedSimpArgs false
set_option linter.unusedVariables false


theorem below_pc (x n : Int) (h1 : 1 ≤ n) (h2 : n ≤ 9223372036854775807) :
    Pc Tryz.prog 101 [.int .i64 x, .int .i64 n] (· = .int .i64 (x % n)) := by
  refine pc_intro (ct_intro Tryz.func101 rfl Tryz.ntmps101 hB101 (by simp) fun h ρ w => goW (N := 16) Tryz.ntmps101 200 ?_)
  have hm : x.tmod n = if 0 ≤ x ∨ n ∣ x then x % n else x % n - n.natAbs := by
    rw [Int.tmod_eq_emod]; split <;> simp
  have hlt := Int.emod_lt_of_pos x (show 0 < n by omega)
  have hge := Int.emod_nonneg x (show n ≠ 0 by omega)
  have hna : (n.natAbs : Int) = n := by omega
  rw [hna] at hm
  simp only [go_sem, xint]
  refine ⟨fun _ => by omega, fun _ => ⟨by omega, fun h3 => ?_, fun h3 => ?_⟩⟩
  · refine aret [4] rfl ⟨?_, rfl⟩
    show AV.int .i64 _ = _
    rw [hm] at h3 ⊢
    split at h3
    · omega
    · rw [if_neg (by assumption), show x % n - n + n = x % n by omega]
      exact congrArg _ (IntWalk.i64_in _ ⟨by omega, by omega⟩)
  · refine aret [4] rfl ⟨?_, rfl⟩
    show AV.int .i64 _ = _
    rw [hm] at h3 ⊢
    split at h3
    · rw [if_pos (by assumption)]
    · omega

/-- the stream's fields -/
def str (L : List Int) (at' : Int) : AV := .agg [.fz 1 (L.map (.int .i64)), .int .i64 at']

end Go.Proofs.YtkomcdohejibmaaGreatDoor
/- What the library's contracts on strings.Builder ask besides. Own work of this seat. -/
set_option maxRecDepth 100000
namespace Go.Proofs
open Go.Shelf
theorem Tryz.Builder_Extra_169 : Builder.Extra Tryz.prog Tryz.lays169_ren := {
  sizeBuilder := by kernel_rfl
  liesBuilder := by kernel_rfl
  t5 := Tryz.underlying5
  a5 := Tryz.isAgg5
  z5 := Tryz.sizeOf5
  v5 := Tryz.zeroValue5
  infoByte := by kernel_rfl
  cellsByte := by kernel_rfl
  sizeByte := by kernel_rfl
  neB5 := by decide }
theorem Tryz.Builder_Extra_105 : Builder.Extra Tryz.prog Tryz.lays105_ren := {
  sizeBuilder := by kernel_rfl
  liesBuilder := by kernel_rfl
  t5 := Tryz.underlying5
  a5 := Tryz.isAgg5
  z5 := Tryz.sizeOf5
  v5 := Tryz.zeroValue5
  infoByte := by kernel_rfl
  cellsByte := by kernel_rfl
  sizeByte := by kernel_rfl
  neB5 := by decide }
end Go.Proofs
/- strings.Builder: what writing a string does to memory, to the block. Own work of this seat. -/
set_option linter.unusedVariables false
set_option linter.unusedSimpArgs false
namespace Go.Proofs.YtkomcdohejibmaaGreatDoor
open Go Go.RowKit Go.Lib
open Go.Av (Fr rowOf WriteC StringC)

theorem jb : ∃ j, Tryz.prog.info? 146 = some j ∧ j.size = 2 := Option.map_eq_some_iff.1 (show (Tryz.prog.info? 146).map (·.size) = some 2 by kernel_rfl)

set_option maxRecDepth 100000 in
theorem cc_used (b : Nat) (w : World) (h0 : w.cell? ⟨b, 0, none⟩ = some (.pointer (some ⟨b, 0, none⟩))) :
    Calls Tryz.prog 172 #[.pointer (some ⟨b, 0, none⟩)] w fun e w' => e = .returned (.tuple #[]) ∧ w' = w := by
  obtain ⟨j, hj, hjs⟩ := jb
  go_enter Tryz.func172, Tryz.ntmps172
  go_wp2
  rw [run_neq_ptr_same w _ Tryz.underlying143 hj]
  go_wp2
  go_end0
  exact ⟨rfl, rfl⟩

set_option maxRecDepth 100000 in
theorem cc_fresh (b : Nat) (w : World) (h0 : w.cell? ⟨b, 0, none⟩ = some (.pointer none)) (hsh : w.shape? b = some (146, 2)) (hfz : w.frozen? ⟨b, 0, none⟩ = false) :
    Calls Tryz.prog 172 #[.pointer (some ⟨b, 0, none⟩)] w fun e w' => e = .returned (.tuple #[]) ∧ w' = w.setCell ⟨b, 0, none⟩ (.pointer (some ⟨b, 0, none⟩)) := by
  obtain ⟨j, hj, hjs⟩ := jb
  go_enter Tryz.func172, Tryz.ntmps172
  go_wp2
  rw [run_to_unsafe w ⟨b, 0, none⟩ Tryz.underlying143 Tryz.underlying200 hj (by rw [hjs]; decide) hsh (Nat.zero_lt_succ 1)]
  simp only [Result.andThen]
  rw [Oper.upon_value]
  go_wp2
  rw [run_callFunc_extern Tryz.func205 (by kernel_rfl) (by kernel_rfl) (by kernel_rfl) (e := Extern.AbiNoEscape.same) (by kernel_rfl)]
  rw [run_noEscape]
  simp only [Result.andThen]
  rw [Oper.upon_value]
  go_wp2
  rw [run_from_unsafe w ⟨b, 0, none⟩ Tryz.underlying200 Tryz.underlying143 hj hsh (by kernel_rfl)]
  simp only [Result.andThen]
  rw [Oper.upon_value]
  go_wp2
  go_end0
  exact ⟨rfl, rfl⟩

theorem cc (B b : Nat) (bs : List Value) (w : World) (h : IsBuilder 146 5 B b bs w) : Calls Tryz.prog 172 #[.pointer (some ⟨b, 0, none⟩)] w fun e w' => e = .returned (.tuple #[]) ∧ BuilderAt 146 5 B b (.pointer (some ⟨b, 0, none⟩)) bs w' ∧
    Fr w w' b none ∧ w'.cell? ⟨b, 1, none⟩ = w.cell? ⟨b, 1, none⟩ := by
  rcases h with h | h
  · refine (cc_fresh b w h.cell0 h.shape h.frozen0).mono ?_
    rintro e w' ⟨rfl, rfl⟩
    refine ⟨rfl, h.used _, ⟨rfl, rfl, rfl, by simp [World.setCell], fun k _ hk _ => heap_setCell_other w _ k _ hk⟩, World.cell?_setCell_other _ _ _ _ (by simp)⟩
  · refine (cc_used b w h.cell0).mono ?_
    rintro e w' ⟨rfl, rfl⟩
    exact ⟨rfl, h, ⟨rfl, rfl, rfl, Nat.le_refl _, fun _ _ _ _ => rfl⟩, rfl⟩

/-- where the row stands behind an append of a string's bytes -/
theorem append_block {w : World} {B : Nat} {v v' : Value} {n : Nat} {xs : List Value} {s : ByteArray} {ty : TypeId} {w' : World} {i : TypeInfo} (hi : Tryz.prog.info? 5 = some i) (hz : i.zero = some (.int .u8 0)) (hsize : i.size = 1) (hby : i.bytes = 1)
    (hown : w.ownsRow B 5 1 v n xs) (h63 : n + s.size ≤ maxLen) (hb : n + s.size ≤ 140737488355328) (hB : B ≤ w.heap.size) (hr : (Builtin.append_ #[144, 9] ty #[v, .string s]).run Tryz.prog w = .ok v' w') :
    v'.ownBlock = none ∨ v'.ownBlock = v.ownBlock ∨ v'.ownBlock = some w.heap.size := by
  have hm63 : n + s.size ≤ 9223372036854775807 := by unfold maxLen at h63; omega
  have hxl : xs.length = n := by simpa using hown.1
  obtain ⟨v1, w1, hr1, _, _, h4⟩ := run_append_own_string (P := Tryz.prog) w B 144 9 ty 5 i Tryz.underlying144 Tryz.underlying9 hi hz hsize hby v n xs hown s h63 hb hB
  rw [hr] at hr1
  obtain ⟨rfl, _⟩ : v' = v1 ∧ w' = w1 := by simpa using hr1
  rcases hown.2 with ⟨rfl, rfl⟩ | ⟨g, cap, cur, rfl, hbg, hg, hnc, hcm, hcs, htake⟩
  · by_cases hm : s.size = 0
    · rw [h4.2 ⟨rfl, hm⟩]; exact .inl rfl
    · have h := run_append_nil_string (P := Tryz.prog) w 144 9 ty 5 i (.int .u8 0) Tryz.underlying144 Tryz.underlying9 hi hz s (by omega) (by omega) (by rw [hby]; omega)
      rw [hr] at h
      have : v' = .slice (some ⟨w.heap.size, 0, none⟩) s.size (grownCap w s.size 0 5) := (show v' = _ ∧ w' = _ by simpa using h).1
      rw [this]; exact .inr (.inr rfl)
  · by_cases hroom : n + s.size ≤ cap
    · have h := run_append_room_string (P := Tryz.prog) w 144 9 ty 5 i Tryz.underlying144 Tryz.underlying9 hi hsize g n cap cur hg s hroom (by omega)
      rw [hr] at h
      have : v' = .slice (some ⟨g, 0, none⟩) (n + s.size) cap := (show v' = _ ∧ w' = _ by simpa using h).1
      rw [this]; exact .inr (.inl rfl)
    · have h := run_append_grow_string (P := Tryz.prog) w 144 9 ty 5 i (.int .u8 0) Tryz.underlying144 Tryz.underlying9 hi hz ⟨g, 0, none⟩ n cap xs (by rw [hsize]; simpa using hxl) (hown.cells (g := g) rfl) s (by omega) (by omega) (by rw [hby]; exact growslice_fits (by omega) (by omega))
      rw [hr] at h
      have : v' = .slice (some ⟨w.heap.size, 0, none⟩) (n + s.size) (grownCap w (n + s.size) cap 5) := (show v' = _ ∧ w' = _ by simpa using h).1
      rw [this]; exact .inr (.inr rfl)

/-- the operation, for the walk -/
theorem wpList_append {w : World} {ops : Array Oper} {rest : List Oper} {o : Oper} {a : Act} {Q : Exit → Act → World → Prop} (hgd : o.guard = none) (sl x : Operand)
    (ho : o.op = .call { callee := .builtin .append, args := #[sl, x], argTypes := #[144, 9] }) (B : Nat) (i : TypeInfo) (hi : Tryz.prog.info? 5 = some i) (hz : i.zero = some (.int .u8 0)) (hsize : i.size = 1) (hby : i.bytes = 1)
    (v : Value) (n : Nat) (xs : List Value) (hs : a.eval sl = v) (hown : w.ownsRow B 5 1 v n xs) (s : ByteArray) (hx : a.eval x = .string s) (h63 : n + s.size ≤ maxLen) (hb : n + s.size ≤ 140737488355328) (hB : B ≤ w.heap.size)
    (h : ∀ v' w', w'.ownsRow B 5 1 v' (n + s.size) (xs ++ strCells s) → w.grownBy w' v.ownBlock → (v'.ownBlock = none ∨ v'.ownBlock = v.ownBlock ∨ v'.ownBlock = some w.heap.size) → wpList Tryz.prog ops Q rest (a.put o.dst v') w') : wpList Tryz.prog ops Q (o :: rest) a w := by
  refine wpList_plain hgd fun K hK => ?_
  obtain ⟨v', w', hr, h2, h3, _⟩ := run_append_own_string (P := Tryz.prog) w B 144 9 o.type 5 i Tryz.underlying144 Tryz.underlying9 hi hz hsize hby v n xs hown s h63 hb hB
  have hbk := append_block hi hz hsize hby hown h63 hb hB hr
  unfold Oper.wp execOp
  simp only [ho, resolve, invoke, builtin, Sem.run_bind, Sem.run_pure, Result.andThen_ok, List.map_toArray, List.map_cons, List.map_nil, hs, hx, hr]
  exact hK _ _ (h v' w' h2 h3 hbk)

set_option maxHeartbeats 2000000 in
set_option maxRecDepth 100000 in
/-- what WriteString does -/
theorem wstr (B b : Nat) (bs : List Value) (s : ByteArray) (w : World) (h : IsBuilder 146 5 B b bs w) (hlen : bs.length + s.size ≤ 140737488355328) (hBw : B ≤ w.heap.size) :
    Calls Tryz.prog 129 #[.pointer (some ⟨b, 0, none⟩), .string s] w fun e w' => e = .returned (.tuple #[.int .i64 s.size, .nilIface]) ∧ BuilderAt 146 5 B b (.pointer (some ⟨b, 0, none⟩)) (bs ++ strCells s) w' ∧
      Fr w w' b (rowOf w b) ∧ ∀ r, rowOf w' b = some r → rowOf w b = some r ∨ w.heap.size ≤ r := by
  obtain ⟨i0, hi, hz0, hz1, hz2⟩ := info_parts Tryz.Builder_Extra_169.infoByte
  go_enter Tryz.func129, Tryz.ntmps129
  go_wp2_with (go_at_call 172; refine (cc B b bs _ h).mono ?_)
  rintro e w1 ⟨rfl, h1, hf, hc1⟩
  obtain ⟨hB, v, hbk, hown, hne⟩ := h1
  have c0 : w1.cell? ⟨b, 0, none⟩ = some (.pointer (some ⟨b, 0, none⟩)) := by rw [cell_of_heap hbk]; rfl
  have c1 : w1.cell? ⟨b, 1, none⟩ = some v := by rw [cell_of_heap hbk]; rfl
  have hrow : rowOf w b = v.ownBlock := by rw [rowOf, ← hc1, c1]; rfl
  clear hc1
  go_wp2_with (at_builtin; refine wpList_append rfl _ _ rfl B i0 hi hz0 hz1 hz2 _ _ _ rfl hown s rfl ?c3 ?c4 ?c5 ?_)
  case c3 => unfold maxLen; omega
  case c4 => omega
  case c5 => have := hf.size; omega
  intro v' w2 hown' hgrow hblk
  have hlt : b < w1.heap.size := by
    rcases Nat.lt_or_ge b w1.heap.size with h' | h'
    · exact h'
    · simp [Array.getElem?_eq_none h'] at hbk
  have hb2 : w2.heap[b]? = some (.cells #[.pointer (some ⟨b, 0, none⟩), v] 146 (0, 0)) := by
    rw [hgrow.block b hlt (fun e => hne e.symm)]
    exact hbk
  have d0 : w2.cell? ⟨b, 0, none⟩ = some (.pointer (some ⟨b, 0, none⟩)) := by rw [cell_of_heap hb2]; rfl
  have d1 : w2.cell? ⟨b, 1, none⟩ = some v := by rw [cell_of_heap hb2]; rfl
  have f1 : w2.frozen? ⟨b, 1, none⟩ = false := frozen_of_heap hb2 1
  obtain ⟨ao, n', cap, rfl⟩ : ∃ ao n' cap, v' = .slice ao n' cap := by
    rcases hown'.2 with ⟨hv, _⟩ | ⟨g, cap, cur, hv, _⟩
    · exact ⟨_, _, _, hv⟩
    · exact ⟨_, _, _, hv⟩
  go_wp2
  go_ret2
  refine ⟨rfl, BuilderAt.put (T := 146) (e := 5) hB hb2 (bs' := bs ++ strCells s) (by simpa [strCells_length] using hown') (by decide), ?_⟩
  have hw2 : rowOf (w2.setCell ⟨b, 1, none⟩ (.slice ao n' cap)) b = Value.ownBlock (.slice ao n' cap) := by
    rw [rowOf, World.cell?_setCell_same _ _ _ d1]; rfl
  rw [hrow]
  refine ⟨⟨(hgrow.os.trans hf.os), (hgrow.tape.trans hf.tape), (hgrow.output.trans hf.output), by have := hf.size; have := hgrow.size; simp [World.setCell]; omega, fun k hk hkb hkr => by
    rw [heap_setCell_other _ _ k _ hkb, hgrow.block k (by have := hf.size; omega) hkr, hf.block k hk hkb (by simp)]⟩, fun r hr => ?_⟩
  rw [hw2] at hr
  rcases hblk with h | h | h
  · rw [h] at hr; cases hr
  · rw [h] at hr; exact .inl hr
  · rw [h] at hr
    have := hf.size
    simp at hr
    exact .inr (by omega)

theorem write_c : WriteC Tryz.prog 129 146 5 := ⟨hB129, fun B b bs s w h h1 h2 => wstr B b bs s w h h1 h2⟩
theorem string_c : StringC Tryz.prog 130 146 5 := ⟨hB130, fun B b l w h h2 => Any.Builder_String_any Tryz.lays169 Tryz.Builder_Extra_169 B b l w h h2⟩
end Go.Proofs.YtkomcdohejibmaaGreatDoor
/- The end of a Builder, with one string kept. Own work of this seat. -/
set_option linter.unusedSimpArgs false
set_option linter.unusedVariables false
set_option linter.unusedSectionVars false
namespace Go.Av
open Go Go.RowKit
section
variable {h h' : Mem} {ρ ρ' : Own} {sto sto' : List Blk} {w w' : World} {T e : TypeId} {B b : Nat} {l : List UInt8}
variable {c : Cx} {k : List It} {en : Env} {s : List Blk}

theorem bstring1 (t0 : Tmp) (s0 : List UInt8) {f : FuncId} (hw : StringC c.P f T e) {d : Option Tmp} {all os : List Oper} (hx : c.x = BldA T e B b l) (hB : B = c.w.heap.size) (hs0 : c.sto = []) (hm0 : Mine c.h c.ρ c.sto c.w) {N : Nat} (hN : c.fn.ntmps = N) (hd : dOk N d = true)
    (h0 : get en t0 = .str s0) (hk : AWp { c with x := X0, hx := stb0 } (.ops all os :: k) (put [(t0, .str s0)] d (.str l)) []) :
    ACall c f [.raw (.pointer (some ⟨b, 0, none⟩))] d all os k en s := by
  intro a w h ρ vs hm hl he hdf hsz hX hv
  rw [hx] at hX
  obtain ⟨h1, h2, h3⟩ := hX
  refine ⟨hw.1, ?_⟩
  have hvs : vs = [.pointer (some ⟨b, 0, none⟩)] := by
    cases hv with | cons r1 r2 => cases r2; rw [inv_raw r1]
  subst hvs
  refine (hw.2 B b l w h1 (by have := hl.size; omega)).mono ?_
  rintro en' w' ⟨rfl, hb⟩
  have hρ0 : ∀ i, c.ρ i = none := fun i => hm0.out i (by rw [hs0]; simp)
  have hcell : ∀ k', k' < c.w.heap.size → w'.heap[k']? = c.w.heap[k']? := fun k' hk' => by
    rw [hb.block k' (by omega)]
    exact hl.block k' hk' (fun i t hi => by rw [hρ0 i] at hi; cases hi)
  have hmine : Mine c.h (fun _ => none) [] w' := by
    refine ⟨fun k' o v e' => ?_, fun id blk e' => by simp at e', fun _ _ => rfl, fun i j g t t' e' => by simp at e', fun i g t e' => by simp at e'⟩
    exact ⟨(World.cell?_of_block (hcell k' (hm0.memlt e'))).trans (hm0.mem k' o v e').1, (hm0.mem k' o v e').2⟩
  have hlat : Later c.h c.ρ c.sto c.w c.h (fun _ => none) [] w' := by
    refine ⟨fun _ _ _ x => x, fun _ _ x y => (y x).elim, fun v x lf => ?_, hb.os.trans hl.os, hb.tape.trans hl.tape, ⟨hb.output.trans hl.output.1, trivial⟩, Nat.le_trans hl.size hb.size, fun k' hk' _ => hcell k' hk', fun i g t e' => by simp at e'⟩
    have := lf.2
    rw [hs0] at this
    cases x <;> simp [LfC] at this
  have := hk (a.put d (.string ⟨l.toArray⟩)) w' ⟨c.h, fun _ => none, hmine, hlat, ?_, by rw [put_defers']; exact hdf, by rw [put_size]; exact hsz, trivial⟩
  · rw [WQ_x] at this
    exact this
  · have hv0 := he t0
    rw [h0] at hv0
    have hv1 := inv_str hv0
    have he0 : EnvOk c.h (fun _ => none) [] [(t0, .str s0)] a := fun t => by
      by_cases ht : t = t0
      · subst ht
        rw [show get [(t, AV.str s0)] t = .str s0 by simp [get], hv1]
        exact .str _
      · rw [show get [(t0, AV.str s0)] t = .any by
          have : (t0 == t) = false := by simpa using Ne.symm ht
          simp [get, this]]
        exact .any _
    exact he0.put (by rw [hsz, hN]; exact hd) (.str _)
end
end Go.Av
/- The stream's small draws; texts. Own work of this seat. -/
set_option maxRecDepth 100000
set_option linter.unusedSimpArgs false
set_option linter.unusedVariables false
namespace Go.Proofs.YtkomcdohejibmaaGreatDoor
open Go Go.Av Go.RowKit

def deptL : List (List UInt8) := [[97, 114, 116], [99, 97, 109, 101, 114, 97], [115, 111, 117, 110, 100]]
def folkL : List (List UInt8) := [[101, 118, 101], [98, 111, 98]]
theorem depts_pc : Pc Tryz.prog 20 [] (· = .fz 1 (deptL.map .str)) := by
  refine pc_intro (ct_intro Tryz.func20 rfl Tryz.ntmps20 hB20 (by simp) fun h ρ w => goB (N := 2) Tryz.ntmps20 300 ?_)
  simp only [go_sem]
  exact aret [0] rfl ⟨rfl, rfl⟩
theorem folk_pc : Pc Tryz.prog 109 [] (· = .fz 1 (folkL.map .str)) := by
  refine pc_intro (ct_intro Tryz.func109 rfl Tryz.ntmps109 hB109 (by simp) fun h ρ w => goB (N := 2) Tryz.ntmps109 300 ?_)
  simp only [go_sem]
  exact aret [0] rfl ⟨rfl, rfl⟩
def lineL : List (List UInt8) := [[97], [98], [99], [97], []]
theorem strs_frz : ∀ l : List (List UInt8), (flat (l.map AV.str)).all Av.frozen = true
  | [] => rfl
  | x :: l => by
    simp only [List.map_cons, flat, cellsOf, List.all_append, strs_frz l, Bool.and_true]; rfl
/-- lines with a line feed each -/
def jL (ls : List (List UInt8)) : List UInt8 := (ls.map fun x => x ++ [10]).flatten
theorem jL_step (ls : List (List UInt8)) (i : Nat) (h : i < ls.length) : jL (ls.take (i + 1)) = jL (ls.take i) ++ (ls[i] ++ [10]) := by
  rw [jL, jL, List.take_succ_eq_append_getElem h, List.map_append, List.flatten_append]
  simp only [List.map_cons, List.map_nil, List.flatten_cons, List.flatten_nil, List.append_nil]
theorem dbzero : ∃ i, Tryz.prog.info? 146 = some i ∧ i.zero = some (.agg #[.pointer none, .slice none 0 0]) := Option.map_eq_some_iff.1 (show (Tryz.prog.info? 146).map (·.zero) = some (some (.agg #[.pointer none, .slice none 0 0])) by kernel_rfl)
set_option maxHeartbeats 2000000 in
theorem joined_pch {S : Std} (ls : List (List UInt8)) (h1 : ls.length ≤ 1000) (h2 : ∀ x ∈ ls, x.length ≤ 1000) : PcH Tryz.prog S 161 [.fz 1 (ls.map .str)] (· = .str (jL ls)) := by
  obtain ⟨i, hi, hz⟩ := dbzero
  refine pch_intro (cthm_intro Tryz.func161 rfl Tryz.ntmps161 hB161 (by simp) fun h ρ w hg hm => go (N := 21) Tryz.ntmps161 12 ?_)
  simp only [go_sem]
  refine bstart (T := 146) (t := 4) rfl rfl rfl (N := 21) Tryz.ntmps161 (by decide) hi hz 5 ?_
  intro b hb
  refine go (N := 21) Tryz.ntmps161 300 ?_
  simp only [go_sem, List.length_map]
  refine bloop (ι := Nat) (fun y => ls.length - y)
    (fun y => [(9, .int .i64 y), (8, .int .i64 ls.length), (7, .fz 1 (ls.map .str)), (4, .raw (.pointer (some ⟨b, 0, none⟩))), (3, .str [])])
    (fun _ => []) (fun y => jL (ls.take y)) (fun y => y ≤ ls.length ∧ (jL (ls.take y)).length ≤ y * 1001) 0 rfl ⟨by simp, by simp [jL]⟩ ?_ ?_
  · refine Shift.weak ?_
    simp only [wk, go_sem]
  · rintro i ⟨g1, g2⟩ hJ
    by_cases gi : i < ls.length
    · have di : decide ((i : Int) < (ls.length : Int)) = true := by simp; omega
      have hx : (ls.map AV.str).getD i .any = .str ls[i] := by simp [List.getD, gi]
      have hs := jL_step ls i gi
      have hl := h2 _ (List.getElem_mem gi)
      refine go (N := 21) Tryz.ntmps161 300 ?_
      simp only [go_sem, di, hx, List.length_map]
      repeat refine And.intro (by first | omega | exact .inl trivial | rfl | (simp; done) | (simp; omega)) ?_
      refine bwrite write_c rfl rfl (N := 21) Tryz.ntmps161 rfl (by simp; omega) (go (N := 21) Tryz.ntmps161 300 ?_)
      simp only [go_sem]
      repeat refine And.intro (by first | omega | exact .inl trivial | rfl | (simp; done) | (simp; omega)) ?_
      rw [show (i : Int) + 1 = ((i + 1 : Nat) : Int) by omega]
      refine hJ (i + 1) ⟨by omega, by rw [hs]; simp; omega⟩ (by omega) _ hs.symm _ _ (Shift.weak ?_)
      simp only [wk, go_sem]
    · have di : decide ((i : Int) < (ls.length : Int)) = false := by simp; omega
      have hl : jL (ls.take i) = jL ls := by rw [List.take_of_length_le (by omega)]
      refine go (N := 21) Tryz.ntmps161 300 ?_
      simp only [go_sem, di]
      refine bstring1 17 [] string_c rfl rfl rfl hm (N := 21) Tryz.ntmps161 rfl rfl (go (N := 21) Tryz.ntmps161 300 ?_)
      simp only [go_sem]
      repeat refine And.intro (by first | omega | exact .inl trivial | rfl | (simp; done) | (simp; omega)) ?_
      exact aret [2] rfl ⟨by simp [resV, Av.get, Av.put, hl], rfl⟩
end Go.Proofs.YtkomcdohejibmaaGreatDoor
/- Texts and deeds that are drawn. Own work of this seat. -/
set_option maxRecDepth 100000
set_option linter.unusedSimpArgs false
set_option linter.unusedVariables false
namespace Go.Proofs.YtkomcdohejibmaaGreatDoor
open Go Go.Av Go.RowKit

theorem o_strInt (s : List UInt8) (k : IntKind) (n : Int) : ∀ h vs', RL h Lf0 true vs' [.str s, .int k n] → vs' = [.string ⟨s.toArray⟩, .int k n] := by
  intro h vs' r
  cases r with | cons r1 r => cases r with | cons r2 r => cases r; rw [o_str r1]; cases r2 with | int => rfl
theorem drepeat_pc (s : List UInt8) (c : Nat) (hlen : s.length * c ≤ 1000000) (hc : c ≤ 1000000) : Pc Tryz.prog 163 [.str s, .int .i64 c] (· = .str (Lib.repeatL s c)) :=
  l_pc [_, .int .i64 c] (.string ⟨(Lib.repeatL s c).toArray⟩) hB163 (o_strInt s .i64 c) (fun h => .str _)
    fun w => Any.strings_Repeat Tryz.lays105 Tryz.Builder_Extra_105 ⟨s.toArray⟩ c w (by omega) (show s.length * c ≤ _ by omega)
theorem jL_len {n : Nat} : ∀ ls : List (List UInt8), (∀ x ∈ ls, x.length ≤ n) → (jL ls).length ≤ ls.length * (n + 1)
  | [], _ => by simp [jL]
  | x :: ls, h => by
    have h1 := jL_len ls (fun y hy => h y (by simp [hy]))
    have h2 := h x (by simp)
    have h3 : jL (x :: ls) = x ++ [10] ++ jL ls := by simp [jL]
    rw [h3, List.length_append, List.length_append, List.length_cons, List.length_cons, List.length_nil, Nat.succ_mul]
    omega
theorem line_len {x : List UInt8} (h : x ∈ lineL) : x.length ≤ 1 := by
  simp only [lineL, List.mem_cons, List.not_mem_nil, or_false] at h
  rcases h with rfl | rfl | rfl | rfl | rfl <;> decide

end Go.Proofs.YtkomcdohejibmaaGreatDoor
/- Deeds that are drawn. Own work of this seat. -/
set_option maxRecDepth 100000
set_option linter.unusedSimpArgs false
set_option linter.unusedVariables false
namespace Go.Proofs.YtkomcdohejibmaaGreatDoor
open Go Go.Av Go.RowKit

def kindL : List Int := [1, 1, 1, 2, 3, 3, 4, 5, 5]
def papL : List (List UInt8) := [[112, 108, 97, 110], [112, 108, 97, 110], [108, 105, 115, 116]]
def badD : List (List UInt8) := [[], [65], [49, 97]]
/-- a deed whose Seen is nil -/
def deZ (dept : List UInt8) (kind : Int) (paper text person : List UInt8) : AV := .agg [.str dept, .int .i64 0, .raw (.slice none 0 0), .int .i64 kind, .str paper, .str text, .str person]
theorem short_mem {x : List UInt8} {l : List (List UInt8)} (hl : l.all (fun y => decide (y.length ≤ 10)) = true) (h : x ∈ l) : x.length ≤ 10 := of_decide_eq_true (List.all_eq_true.1 hl x h)
end Go.Proofs.YtkomcdohejibmaaGreatDoor
/- Stamps and orders that are drawn. Own work of this seat. -/
set_option maxRecDepth 100000
set_option linter.unusedSimpArgs false
set_option linter.unusedVariables false
namespace Go.Proofs.YtkomcdohejibmaaGreatDoor
open Go Go.Av Go.RowKit

/-- stamps of a size that a machine bears -/
def SzS (l : List St) : Prop := l.length < 1000 ∧ ∀ s ∈ l, s.dept.length ≤ 10
theorem SzS.push {o : List St} {s : St} {n : Nat} (h : o.length ≤ n ∧ ∀ s ∈ o, s.dept.length ≤ 10) (hs : s.dept.length ≤ 10) : (o ++ [s]).length ≤ n + 1 ∧ ∀ x ∈ o ++ [s], x.dept.length ≤ 10 := by
  refine ⟨by simp; omega, fun x hx => ?_⟩
  rcases List.mem_append.1 hx with hx | hx
  · exact h.2 x hx
  · rw [List.mem_singleton.1 hx]; exact hs
end Go.Proofs.YtkomcdohejibmaaGreatDoor
/- Contains, Clone, papers compared. Own work of this seat. -/
set_option maxRecDepth 100000
set_option linter.unusedSimpArgs false
set_option linter.unusedVariables false
namespace Go.Proofs.YtkomcdohejibmaaGreatDoor
open Go Go.Av Go.RowKit

theorem dstr_get {l : List (List UInt8)} {i : Nat} (h : i < l.length) : List.getD (List.map AV.str l) i .any = .str l[i] := by simp [List.getD, h]
theorem dindex_pc (l : List (List UInt8)) (x : List UInt8) (hl : l.length < 1000000) : Pc Tryz.prog 85 [.fz 1 (l.map .str), .str x] (· = .int .i64 (idxP (fun y => x == y) l)) := by
  refine pc_intro (ct_intro Tryz.func85 rfl Tryz.ntmps85 hB85 (by simp) fun h ρ w => goB (N := 19) Tryz.ntmps85 300 ?_)
  simp only [go_sem]
  refine aloop (ι := Nat) (fun i => l.length - i) (fun i => [(8, .int .i64 i), (7, .int .i64 l.length), (1, .str x), (0, .fz 1 (l.map .str))]) (fun _ => []) (fun i => i ≤ l.length ∧ ∀ j < i, ∀ h : j < l.length, (x == l[j]) = false) 0 ⟨by simp, fun j h => absurd h (by omega)⟩ ?_ ?_
  · refine Shift.weak ?_
    simp only [wk, go_sem, List.length_map]
  rintro i ⟨g1, g2⟩ J hJ
  by_cases gi : i < l.length
  · have di : decide ((i : Int) < (l.length : Int)) = true := by simp; omega
    have hx := dstr_get gi
    refine goB (N := 19) Tryz.ntmps85 300 ?_
    cases he : x == l[i] with
    | true =>
      have hidx : idxP (fun y => x == y) l = (i : Int) := by
        unfold idxP
        rw [List.findIdx?_eq_some_iff_getElem.2 ⟨gi, he, fun j hj => by simp [g2 j hj (by omega)]⟩]
      simp only [go_sem, di, hx, he, List.length_map]
      repeat refine And.intro (by first | omega | rfl | (simp; omega)) ?_
      exact aret [4] rfl ⟨by simp [resV, Av.get, Av.put, hidx], rfl⟩
    | false =>
      have hfin := hJ (i + 1) ⟨by omega, fun j hj h => by
        rcases Nat.lt_or_ge j i with hh | hh
        · exact g2 j hh h
        · have : j = i := by omega
          subst this; exact he⟩ (by omega)
      simp only [go_sem, di, hx, he, List.length_map]
      repeat refine And.intro (by first | omega | rfl | (simp; omega)) ?_
      rw [show (i : Int) + 1 = ((i + 1 : Nat) : Int) by omega]
      refine ainv hfin (Shift.weak ?_)
      simp only [wk, go_sem]
  · have di : decide ((i : Int) < (l.length : Int)) = false := by simp; omega
    have hidx : idxP (fun y => x == y) l = -1 := by
      unfold idxP
      rw [List.findIdx?_eq_none_iff.2 fun y hy => by
        obtain ⟨j, hj, rfl⟩ := List.getElem_of_mem hy
        exact g2 j (by omega) hj]
    refine goB (N := 19) Tryz.ntmps85 300 ?_
    simp only [go_sem, di]
    exact aret [4] rfl ⟨by rw [hidx]; rfl, rfl⟩
theorem dcontains_pc (l : List (List UInt8)) (x : List UInt8) (hl : l.length < 1000000) : Pc Tryz.prog 33 [.fz 1 (l.map .str), .str x] (· = .bool (decide (x ∈ l))) := by
  have hi := dindex_pc l x hl
  have hb : decide (idxP (fun y => x == y) l ≥ 0) = decide (x ∈ l) := by
    rcases idxP_find (p := fun y => x == y) (l := l) with ⟨h1, h2⟩ | ⟨i, hi, h1, h2⟩
    · rw [h1]
      have : x ∉ l := fun hm => by
        rw [List.find?_eq_none] at h2
        have := h2 x hm
        simp at this
      simp [this]
    · rw [h1]
      have h3 := List.find?_some h2
      simp only [beq_iff_eq] at h3
      have : x ∈ l := by rw [h3]; exact List.getElem_mem hi
      simp [this]
  rw [← hb]
  refine pc_intro (ct_intro Tryz.func33 rfl Tryz.ntmps33 hB33 (by simp) fun h ρ w => goB (N := 9) Tryz.ntmps33 300 ?_)
  simp only [go_sem]
  refine pcall1 (hi) rfl (N := 9) Tryz.ntmps33 rfl (goB (N := 9) Tryz.ntmps33 300 ?_)
  simp only [go_sem]
  exact aret [4] rfl ⟨rfl, rfl⟩
theorem rmayFn_pc (d : De) : Pc Tryz.prog 160 [deA d] (· = .bool (d.kind == 4)) := by
  simp only [deA]
  refine pc_intro (ct_intro Tryz.func160 rfl Tryz.ntmps160 hB160 (by simp) fun h ρ w => goB (N := 6) Tryz.ntmps160 300 ?_)
  simp only [go_sem]
  exact aret [2] rfl ⟨rfl, rfl⟩
theorem mayFn_pc (d : De) : Pc Tryz.prog 89 [deA d] (· = .bool (d.kind == 4)) := by
  simp only [deA]
  refine pc_intro (ct_intro Tryz.func89 rfl Tryz.ntmps89 hB89 (by simp) fun h ρ w => goB (N := 6) Tryz.ntmps89 300 ?_)
  simp only [go_sem]
  exact aret [2] rfl ⟨rfl, rfl⟩
/-- papers -/
structure Pp where
  name : List UInt8
  vers : List St
end Go.Proofs.YtkomcdohejibmaaGreatDoor
