/- The blocks of a scene. Own work of this seat. -/
import Derived.Test.YtikbgjhajgjjdaaGreatDoorP32
import Derived.Test.YtikbgjhajgjjdaaGreatDoorP35
import Derived.Test.YtikbgjhajgjjdaaGreatDoorP36
set_option maxRecDepth 100000
set_option linter.unusedSimpArgs false
set_option linter.unusedVariables false
namespace Go.Proofs.YtikbgjhajgjjdaaGreatDoor
open Go Go.Av Go.RowKit
attribute [local go_sem ↓] br_true br_false dbr_true dbr_false dbri_true dbri_false dbrg_true dbrg_false
attribute [local go_sem] run cont br dbr dx dxc dgrd dyld dres dcall calm fieldPlace? allHas step1 opN grdN resN condN exitN stopN exitIt dOk xop xbin xint xarith xstr xbool xpick xnot xneg xextract xpart xpartOk xindex xfieldF fieldD xnew xbox xalloc xfieldAddr xptrAddIf xindexAddr xloadC xload putCells reElem xstoreB xstore xconv xtext xlen xlen2 xcall xfill xbuild cut rep xbuildSlice xbuildSliceD isRow elemD isU8 ev evs evp Go.Av.put Go.Av.get ofConst yldD yldV notBool_undef args0 cellsOf cond_true cond_false decide_true decide_false decide_eq_true_eq decide_eq_false_iff_not List.getElem?_cons_zero List.getElem?_cons_succ List.getElem?_nil List.getD_cons_zero List.getD_cons_succ List.getD_nil List.set_cons_zero List.set_cons_succ List.length_cons List.length_nil List.cons_append List.nil_append List.append_nil List.all_cons List.all_nil List.map_cons List.map_nil List.take_succ_cons List.take_zero List.drop_succ_cons List.drop_zero Bool.and_true Bool.true_and Bool.and_self Bool.and_false Bool.false_and one Go.Av.frozen beq_self_eq_true true_and and_true forall_const false_implies implies_true and_self Option.map_some Option.map_none Nat.zero_add Nat.add_zero Nat.zero_mul Nat.mul_one Nat.one_mul Int.toNat_zero ne_eq not_false_eq_true not_true_eq_false Bool.true_eq_false Bool.false_eq_true List.toList_toArray inr Go.Av.byteOf isByte decide_eq_decide Bool.not_true Bool.not_false Bool.not_eq_true' Bool.or_true Bool.true_or Bool.or_false Bool.false_or ge_iff_le gt_iff_lt and_assoc Bool.decide_eq_true beq_iff_eq beq_eq_false_iff_ne bne_iff_ne bne_self_eq_false if_true if_false Bool.and_eq_true Bool.or_eq_true Bool.and_eq_false_imp Bool.or_eq_false_iff Bool.not_eq_false' has Option.isSome_some Option.isSome_none Int.toNat_natCast Int.cast_ofNat_Int List.length_append xapp2 xapp xappS xappD xappB notInt srcOf srcB byteAV splice' xcut xcutS xcutF xcutB xcutN xcut0 cutL loOf hiOf evo xmake zelem xmax xcopy2 xcopyS xcopyB xnil xcut3 ixOf xclear2 xclearB List.getElem?_toArray xbin2 xnileq xempty xmkmap xmput xmputB xmputF isKey keyEq mfind xbin3 xeqs xeqop eqFs bothB leafEq xlook xlookB xlookF xbytes beq_c_n beq_n_c bne_c_n bne_n_c one_nil dxi dxic dbri rix dck reader blind opOk refOk Go.Op.operands Go.Call.operands List.contains_cons List.contains_nil dxg dxgc dbrg pck putD List.lookup_cons List.lookup_nil ts2 tb2 zl2 za2 Tryz.underlying2 ts3 tb3 zl3 za3 Tryz.underlying3 ts4 tb4 zl4 za4 Tryz.underlying4 ts5 tb5 zl5 za5 Tryz.underlying5 ts6 tb6 zl6 za6 Tryz.underlying6 ts7 tb7 za7 Tryz.underlying7 ts8 tb8 za8 Tryz.underlying8 ts9 tb9 zl9 za9 Tryz.underlying9 ts10 tb10 zl10 za10 Tryz.underlying10 ts11 tb11 zl11 za11 Tryz.underlying11 ts12 tb12 zl12 za12 Tryz.underlying12 ts13 tb13 za13 Tryz.underlying13 ts14 tb14 za14 Tryz.underlying14 ts18 tb18 za18 Tryz.underlying18 ts19 tb19 za19 Tryz.underlying19 ts21 tb21 zl21 za21 Tryz.underlying21 ts22 tb22 zl22 za22 Tryz.underlying22 ts24 tb24 za24 Tryz.underlying24 ts25 tb25 za25 Tryz.underlying25 ts26 tb26 zl26 za26 Tryz.underlying26 ts27 tb27 za27 Tryz.underlying27 ts28 tb28 za28 Tryz.underlying28 ts30 tb30 zl30 za30 Tryz.underlying30 ts31 tb31 zl31 za31 Tryz.underlying31 ts34 tb34 zl34 za34 Tryz.underlying34 ts35 tb35 zl35 za35 Tryz.underlying35 ts36 tb36 za36 Tryz.underlying36 ts37 tb37 za37 Tryz.underlying37 ts46 tb46 za46 Tryz.underlying46 ts47 tb47 za47 Tryz.underlying47 ts61 tb61 zl61 za61 Tryz.underlying61 ts62 tb62 za62 Tryz.underlying62 ts63 tb63 za63 Tryz.underlying63 ts66 tb66 zl66 za66 Tryz.underlying66 ts68 tb68 zl68 za68 Tryz.underlying68 ts74 tb74 za74 Tryz.underlying74 ts75 tb75 za75 Tryz.underlying75 ts77 tb77 zl77 za77 Tryz.underlying77 ts81 tb81 zl81 za81 Tryz.underlying81 ts82 tb82 za82 Tryz.underlying82 ts83 tb83 za83 Tryz.underlying83 ts86 tb86 zl86 za86 Tryz.underlying86 ts102 tb102 za102 Tryz.underlying102 ts103 tb103 za103 Tryz.underlying103 ts106 tb106 za106 Tryz.underlying106 ts107 tb107 za107 Tryz.underlying107 ts114 tb114 zl114 za114 Tryz.underlying114 ts117 tb117 zl117 za117 Tryz.underlying117 ts120 tb120 zl120 za120 Tryz.underlying120 ts133 tb133 zl133 za133 Tryz.underlying133 ts144 tb144 zl144 za144 Tryz.underlying144 ts151 tb151 zl151 za151 Tryz.underlying151 ts156 tb156 zl156 za156 Tryz.underlying156 ts160 tb160 Tryz.underlying160 ts169 tb169 za169 Tryz.underlying169 ts170 tb170 za170 Tryz.underlying170 ts175 tb175 Tryz.underlying175 ts180 tb180 za180 Tryz.underlying180 ts181 tb181 za181 Tryz.underlying181 ts185 tb185 za185 Tryz.underlying185 ts186 tb186 za186 Tryz.underlying186 ts187 tb187 Tryz.underlying187 ts189 tb189 Tryz.underlying189 ts190 tb190 Tryz.underlying190 ts191 tb191 za191 Tryz.underlying191 ts192 tb192 za192 Tryz.underlying192 ts196 tb196 zl196 za196 Tryz.underlying196 ts197 tb197 zl197 za197 Tryz.underlying197 ts199 tb199 zl199 za199 Tryz.underlying199 ts200 tb200 zl200 za200 Tryz.underlying200 ts201 tb201 za201 Tryz.underlying201 ts202 tb202 za202 Tryz.underlying202

def asideT (t : List UInt8) : List UInt8 := 40 :: (t ++ [41])
def newB (p : Pa) : Bl :=
  if p.kind == 1 then ⟨1, wrapL 60 p.text, [], []⟩ else if p.kind == 5 then ⟨2, [turnLine p.text], [], []⟩ else ⟨3, [indent 20 p.text], [0], p.text⟩
def moreB (b : Bl) (p : Pa) : Bl := if p.kind == 3 then addB b 1 15 (wrapL 30 (asideT p.text)) else addB b 2 10 (wrapL 35 p.text)
/-- what is done, and the block under way -/
def bstep (s : List Bl × Bl) (p : Pa) : List Bl × Bl := if joins p then (s.1, moreB s.2 p) else (s.1 ++ [s.2], newB p)
def blocksS (x : Sc) : List Bl × Bl := x.paras.foldl bstep ([], ⟨0, wrapL 60 (headL x), [], []⟩)
def blocksL (x : Sc) : List Bl := (blocksS x).1 ++ [(blocksS x).2]

theorem frz_bls (id e : Nat) (l : List AV) (bs : List Bl) : (bs.map blA).map (frz id e l) = bs.map blA := by
  rw [List.map_map]
  apply List.map_congr_left
  intro b _
  rfl
theorem frz_scB (id e : Nat) (l : List AV) (x : Sc) : frz id e l (scA x) = scA x := rfl
theorem frozen_bls (l : List Bl) : (flat (l.map blA)).all Av.frozen = true := by
  induction l with
  | nil => rfl
  | cons y l ih => simpa [flat, cellsOf, blA, Av.frozen] using ih

def XA (b : Bl) : AV := if b.kind == 3 then grpA 2 3 b.kind b.lines.length b.kinds.length b.name else blA b
def LA (b : Bl) : List AV := if b.kind == 3 then b.lines.map .str else []
def KA (b : Bl) : List AV := if b.kind == 3 then b.kinds.map (.int .i64) else []
def boT (x : Sc) (dn : List Bl) (cur : Bl) : List Blk := [.arr 5 [scA x], .arr 4 (dn.map blA ++ [XA cur]), .arr 1 (LA cur), .arr 1 (KA cur)]

theorem frz_lowC {n id es : Nat} {l : List AV} (hid : n ≤ id) {v : AV} (h : lowC n v = true) : frz1 id es l v = v := by
  cases v <;> try rfl
  rename_i i off len cap
  have hi : i < n := of_decide_eq_true h
  have : (i == id) = false := by simp; omega
  simp [frz1, this]
theorem frz_lowV {n id es : Nat} {l : List AV} (hid : n ≤ id) {v : AV} (h : lowV n v = true) : frz id es l v = v := by
  cases v with
  | agg r =>
    simp only [frz, AV.agg.injEq]
    conv => rhs; rw [← List.map_id r]
    exact List.map_congr_left fun x hx => frz_lowC hid (List.all_eq_true.1 h x hx)
  | fn f r => rfl
  | sl i off len cap => exact frz_lowC hid (show lowC n (.sl i off len cap) = true from h)
  | _ => rfl
theorem wkl_frz {n id es : Nat} {l : List AV} (hid : n ≤ id) {e : Env} : ∀ {e' : Env}, wkl n e e' → wkl n (frzE id es l e) e'
  | [], _ => trivial
  | (t, v) :: r, h => ⟨⟨h.1.1, by rw [get_frzE, h.1.2, frz_lowV hid h.1.1]⟩, wkl_frz hid h.2⟩
theorem low_bls (n : Nat) (l : List Bl) : lowB n (.arr 4 (l.map blA)) = true := low_all (frozen_bls l)
theorem low_sc (n : Nat) (x : Sc) : lowB n (.arr 5 [scA x]) = true := rfl

section
variable {c : Cx} {e e' : Env}
/-- the block under way is over: all is frozen -/
theorem over_shift {x : Sc} {dn : List Bl} {cur : Bl} (hc : c.sto.length ≤ 2) (hw : wkl 2 e e') : Shift c e (boT x dn cur) e' [.arr 5 [scA x], .arr 4 ((dn ++ [cur]).map blA), .arr 1 [], .arr 1 []] := by
  have fin : ∀ {e0 : Env} {s2 : List Blk}, wkl 2 e0 e' → Shift c e0 ([.arr 5 [scA x], .arr 4 ((dn ++ [cur]).map blA)] ++ s2) e' [.arr 5 [scA x], .arr 4 ((dn ++ [cur]).map blA), .arr 1 [], .arr 1 []] := by
    intro e0 s2 hw0
    refine Shift.trans (Shift.low 2 hc (by simp) ?_ hw0) (Shift.trans (Shift.reserve 1) (Shift.reserve 1))
    simp only [List.cons_append, List.nil_append, List.take_succ_cons, List.take_zero, List.all_cons, List.all_nil, low_bls, low_sc, Bool.and_self]
  unfold boT XA LA KA
  cases hk : cur.kind == 3 with
  | false =>
    simp only [Bool.false_eq_true, if_false]
    have : dn.map blA ++ [blA cur] = (dn ++ [cur]).map blA := by simp
    rw [this]
    exact fin (s2 := [.arr 1 [], .arr 1 []]) hw
  | true =>
    simp only [if_true]
    refine Shift.trans (Shift.frz 2 (es := 1) (l := cur.lines.map .str) rfl (frozen_strs _)) ?_
    simp only [List.set_cons_succ, List.set_cons_zero, List.map_cons, List.map_nil, frzB, frz_scB, List.map_append, frz_bls]
    simp only [grpA, frz, frz1, List.map_cons, List.map_nil, Nat.reduceBEq, beq_self_eq_true, cond_true, cond_false, Bool.false_and, Bool.true_and, List.length_map, Nat.zero_add, decide_true, Nat.le_refl, List.drop_zero, Bool.and_self]
    have h3 : (List.map (frz 2 1 (cur.lines.map .str)) (cur.kinds.map (.int .i64))) = cur.kinds.map (.int .i64) := by
      rw [List.map_map]
      exact List.map_congr_left fun _ _ => rfl
    have ht : List.take cur.lines.length (List.map AV.str cur.lines) = List.map AV.str cur.lines := List.take_of_length_le (by simp)
    rw [h3, ht]
    refine Shift.trans (Shift.frz 3 (es := 1) (l := cur.kinds.map (.int .i64)) rfl (frozen_ints _)) ?_
    simp only [List.set_cons_succ, List.set_cons_zero, List.map_cons, List.map_nil, frzB, frz_scB, List.map_append, frz_bls]
    simp only [grpA, frz, frz1, List.map_cons, List.map_nil, Nat.reduceBEq, beq_self_eq_true, cond_true, cond_false, Bool.false_and, Bool.true_and, List.length_map, Nat.zero_add, decide_true, Nat.le_refl, List.drop_zero, Bool.and_self]
    have ht2 : List.take cur.kinds.length (List.map (AV.int .i64) cur.kinds) = List.map (AV.int .i64) cur.kinds := List.take_of_length_le (by simp)
    rw [ht2]
    have : dn.map blA ++ [.agg [.int .i64 cur.kind, .fz 1 (cur.lines.map .str), .fz 1 (cur.kinds.map (.int .i64)), .str cur.name]] = (dn ++ [cur]).map blA := by simp [blA]
    rw [this, show List.map blA dn ++ [blA cur] = (dn ++ [cur]).map blA by simp]
    exact fin (s2 := [.dead, .dead]) (wkl_frz (n := 2) (id := 3) (by omega) (wkl_frz (n := 2) (id := 2) (by omega) hw))
end

theorem newB_kind (p : Pa) : (newB p).kind = 3 ↔ ¬ (p.kind = 1 ∨ p.kind = 5) := by
  unfold newB
  by_cases h1 : p.kind = 1
  · simp [h1]
  · by_cases h5 : p.kind = 5
    · simp [h5]
    · simp [h1, h5]

theorem boT_plain {x : Sc} {dn : List Bl} {b : Bl} (h : (b.kind == 3) = false) : boT x dn b = [.arr 5 [scA x], .arr 4 (dn.map blA ++ [blA b]), .arr 1 [], .arr 1 []] := by
  simp [boT, XA, LA, KA, h]
theorem boT_group {x : Sc} {dn : List Bl} {b : Bl} (h : (b.kind == 3) = true) : boT x dn b = [.arr 5 [scA x], .arr 4 (dn.map blA ++ [grpA 2 3 b.kind b.lines.length b.kinds.length b.name]), .arr 1 (b.lines.map .str), .arr 1 (b.kinds.map (.int .i64))] := by
  simp [boT, XA, LA, KA, h]
theorem low_boT (x : Sc) (dn : List Bl) (b : Bl) : (boT x dn b).all (lowB 4) = true := by
  have h1 := low_strs 4 b.lines
  have h2 : lowB 4 (.arr 1 (b.kinds.map (.int .i64))) = true := low_all (frozen_ints _)
  have h3 := low_all (n := 4) (frozen_bls dn)
  cases h : b.kind == 3 with
  | false =>
    rw [boT_plain h]
    have := low_bls 4 (dn ++ [b])
    rw [List.map_append] at this
    simp only [List.all_cons, List.all_nil, low_sc, this, Bool.and_true, Bool.true_and]
    have e : [blA b] = List.map blA [b] := rfl
    rw [e, this]; rfl
  | true =>
    rw [boT_group h]
    simp only [List.all_cons, List.all_nil, low_sc, h1, h2, Bool.and_true, Bool.true_and]
    simp only [lowB, flat_append, List.all_append, h3, flat, grpA, cellsOf, List.append_nil, List.all_cons, List.all_nil, lowC, Av.frozen, decide_true, Bool.and_self, Bool.true_and, Nat.reduceLT]
theorem moreB_kind (b : Bl) (p : Pa) : (moreB b p).kind = b.kind := by
  unfold moreB; split <;> rfl
theorem moreB_len (b : Bl) (p : Pa) : (moreB b p).lines.length ≤ b.lines.length + p.text.length + 4 ∧ (moreB b p).kinds.length ≤ b.kinds.length + p.text.length + 4 := by
  unfold moreB addB
  split
  · have := (wrapL_le 30 (asideT p.text)).1
    simp [asideT] at this ⊢; omega
  · have := (wrapL_le 35 p.text).1
    simp at this ⊢; omega
theorem newB_len (p : Pa) : (newB p).lines.length ≤ p.text.length + 4 ∧ (newB p).kinds.length ≤ 1 := by
  have := (wrapL_le 60 p.text).1
  unfold newB
  split
  · simp; omega
  · split <;> simp

set_option maxHeartbeats 8000000 in
theorem blocks_pch {St : Std} (hS : LibOk St) (x : Sc) (hx : SceneOk x) (hp : 1 ≤ x.place ∧ x.place ≤ 3) (ht : 1 ≤ x.time ∧ x.time ≤ 5) (hno : x.no.length < 1000000) (hset : x.set.length < 10000) (hps : x.paras.length ≤ 4000) : PcH Tryz.prog St 28 [scA x] (· = .fz 4 ((blocksL x).map blA)) := by
  have hh := heading_all_pc x hp ht (by omega) hset
  have hhl : (headL x).length < 2000000 := by
    have l1 := placeI_len x.place
    have l2 := timeI_len x.time
    unfold headL headLine
    split <;> simp <;> omega
  have hnh := newHeading_pch hS (headL x) (by omega)
  obtain ⟨e, hr, he2, he3⟩ := hx.run
  simp only [scA] at hh ⊢
  refine pch_intro (cth_intro Tryz.func28 rfl Tryz.ntmps28 hB28 (by simp) fun h ρ w hg => go (N := 65) Tryz.ntmps28 300 ?_)
  simp only [go_sem, Nat.reduceAdd, Nat.reduceMul, Nat.reduceBEq, Nat.reduceLT, Nat.reduceLeDiff, reduceIte, reduceCtorEq, Int.reduceToNat, Int.reduceLT, Int.reduceGT, Int.reduceNeg, Int.reduceBEq, Int.reduceBNe]
  refine pcall1 (hh) rfl (N := 65) Tryz.ntmps28 rfl (go (N := 65) Tryz.ntmps28 300 ?_)
  simp only [go_sem, Nat.reduceAdd, Nat.reduceMul, Nat.reduceBEq, Nat.reduceLT, Nat.reduceLeDiff, reduceIte, reduceCtorEq, Int.reduceToNat, Int.reduceLT, Int.reduceGT, Int.reduceNeg, Int.reduceBEq, Int.reduceBNe]
  refine pcallH1 hg (hnh) rfl (N := 65) Tryz.ntmps28 rfl (go (N := 65) Tryz.ntmps28 300 ?_)
  simp only [blA]
  simp only [go_sem, Nat.reduceAdd, Nat.reduceMul, Nat.reduceBEq, Nat.reduceLT, Nat.reduceLeDiff, reduceIte, reduceCtorEq, Int.reduceToNat, Int.reduceLT, Int.reduceGT, Int.reduceNeg, Int.reduceBEq, Int.reduceBNe, List.length_map]
  refine AWp.shift (Shift.trans (Shift.reserve 1) (Shift.reserve 1)) ?_
  refine aloop (ι := Nat × List Bl × Bl × Int) (fun y => x.paras.length - y.1)
    (fun y => [(13, .int .i64 y.1), (12, .int .i64 x.paras.length), (11, .fz 2 (x.paras.map paA)), (3, .sl 1 0 (y.2.1.length + 1) (y.2.1.length + 1))])
    (fun y => boT x y.2.1 y.2.2.1) (fun y => y.1 ≤ x.paras.length ∧ runL y.2.2.2 (x.paras.drop y.1) = some e ∧ ((y.2.2.2 = 2 ∨ y.2.2.2 = 3 ∨ y.2.2.2 = 4) → y.2.2.1.kind = 3) ∧ (x.paras.drop y.1).foldl bstep (y.2.1, y.2.2.1) = blocksS x ∧
      y.2.1.length ≤ y.1 ∧ y.2.2.1.lines.length ≤ 3000000 + 2100 * y.1 ∧ y.2.2.1.kinds.length ≤ 3000000 + 2100 * y.1) (0, [], ⟨0, wrapL 60 (headL x), [], []⟩, 0) ⟨by simp, hr, by simp, rfl, by simp, ?_, by simp⟩ ?_ ?_
  · have := (wrapL_le 60 (headL x)).1
    simp only; omega
  · refine Shift.weakS ?_ ?_
    · simp only [wk, go_sem, Nat.reduceAdd, Nat.reduceMul, Nat.reduceBEq, Nat.reduceLT, Nat.reduceLeDiff, reduceIte, reduceCtorEq, Int.reduceToNat, Int.reduceLT, Int.reduceGT, Int.reduceNeg, Int.reduceBEq, Int.reduceBNe]
    · rw [boT_plain (by rfl)]; rfl
  · rintro ⟨j, dn, cur, l⟩ ⟨g1, g2, g3, g4, g5, g6, g7⟩ J hJ
    simp only at g1 g2 g3 g4 g5 g6 g7 hJ ⊢
    by_cases gj : j < x.paras.length
    · have dj : decide ((j : Int) < (x.paras.length : Int)) = true := by simp; omega
      have hpA : List.getD (List.map paA x.paras) j .any = .agg [.int .i64 x.paras[j].kind, .str x.paras[j].text] := by simp [List.getD, gj, paA]
      rw [List.drop_eq_getElem_cons gj] at g2 g4
      simp only [runL] at g2
      rw [List.foldl_cons] at g4
      split at g2
      rotate_left
      · cases g2
      rename_i hok
      simp only [Bool.and_eq_true] at hok
      generalize x.paras[j] = p at *
      have hpl := para_len hok.1
      cases hj : joins p with
      | true =>
        have hst : bstep (dn, cur) p = (dn, moreB cur p) := by simp [bstep, hj]
        rw [hst] at g4
        have hml := moreB_len cur p
        have hmk := moreB_kind cur p
        have hk3 : (cur.kind == 3) = true := by
          have hf := hok.2
          simp only [joins, Bool.or_eq_true, beq_iff_eq] at hj
          simp only [followsL] at hf
          have : cur.kind = 3 := by
            rcases hj with h | h <;> simp [h] at hf <;> exact g3 (by omega)
          simpa using this
        have G : Grp (fun g L K => [.arr 5 [scA x], .arr 4 (dn.map blA ++ [g]), .arr 1 L, .arr 1 K, .arr 2 [.agg [.int .i64 p.kind, .str p.text]]]) (fun g => dn.map blA ++ [g]) 1 2 3 (dn.length + 1) dn.length :=
          ⟨by omega, fun _ _ _ => rfl, fun _ => by simp, fun _ => by simp [List.getD], fun _ _ => by simp, fun _ _ _ _ => rfl, fun _ _ _ => rfl, fun _ _ _ _ => rfl, fun _ _ _ => rfl, fun _ _ _ _ => rfl⟩
        have htn : (((dn.length + 1 : Nat) : Int) - 1).toNat = dn.length := by omega
        have fin : boT x dn (moreB cur p) = [.arr 5 [scA x], .arr 4 (dn.map blA ++ [grpA 2 3 (moreB cur p).kind (moreB cur p).lines.length (moreB cur p).kinds.length (moreB cur p).name]), .arr 1 ((moreB cur p).lines.map .str), .arr 1 ((moreB cur p).kinds.map (.int .i64))] := boT_group (by rw [hmk]; exact hk3)
        have hJ' := hJ (j + 1, dn, moreB cur p, p.kind) ⟨by simp only; omega, g2, by simp only; intro _; rw [hmk]; simpa using hk3, g4, by simp only; omega, by simp only; omega, by simp only; omega⟩ (by simp only; omega)
        simp only at hJ'
        rw [boT_group hk3]
        by_cases k3 : p.kind = 3
        · have q1 : (p.kind == 1) = false := by simp [k3]
          have q5 : (p.kind == 5) = false := by simp [k3]
          have q2 : (p.kind == 2) = false := by simp [k3]
          have q3 : (p.kind == 3) = true := by simp [k3]
          have hadd := addAside_cth hS G cur p.text (by omega) (by omega) (by omega)
          have hmb : addB cur 1 15 (wrapL 30 (40 :: (p.text ++ [41]))) = moreB cur p := by simp [moreB, k3, asideT]
          rw [hmb] at hadd
          simp only [grpS] at hadd
          refine goF (N := 65) Tryz.ntmps28 300 ?_
          simp only [go_sem, Nat.reduceAdd, Nat.reduceMul, Nat.reduceBEq, Nat.reduceLT, Nat.reduceLeDiff, reduceIte, reduceCtorEq, Int.reduceToNat, Int.reduceLT, Int.reduceGT, Int.reduceNeg, Int.reduceBEq, Int.reduceBNe, dj, hpA, q1, q5, q2, q3, List.length_map]
          repeat refine And.intro (by first | omega | exact .inl trivial | rfl | (simp; done) | (simp; omega)) ?_
          refine adrawLast [] rfl mixed (by decide) rfl (N := 65) Tryz.ntmps28 (by decide) 100 ?_
          simp only [go_sem, Nat.reduceAdd, Nat.reduceMul, Nat.reduceBEq, Nat.reduceLT, Nat.reduceLeDiff, reduceIte, reduceCtorEq, Int.reduceToNat, Int.reduceLT, Int.reduceGT, Int.reduceNeg, Int.reduceBEq, Int.reduceBNe, runR, contR, brR, step1R, resNR, stopNR, exitNR, dxk, dxkc, dbrk, ↓brR_true, ↓brR_false, ↓dbrk_true, ↓dbrk_false, iniO, KLast, List.length_append, List.length_map, htn]
          repeat refine And.intro (by first | omega | exact .inl trivial | rfl | (simp; done) | (simp; omega)) ?_
          refine goF (N := 65) Tryz.ntmps28 300 ?_
          simp only [go_sem, Nat.reduceAdd, Nat.reduceMul, Nat.reduceBEq, Nat.reduceLT, Nat.reduceLeDiff, reduceIte, reduceCtorEq, Int.reduceToNat, Int.reduceLT, Int.reduceGT, Int.reduceNeg, Int.reduceBEq, Int.reduceBNe]
          refine acallH hg (hadd) (N := 65) Tryz.ntmps28 rfl ?_
          rintro _ _ ⟨rfl, rfl⟩
          refine goF (N := 65) Tryz.ntmps28 300 ?_
          simp only [go_sem, Nat.reduceAdd, Nat.reduceMul, Nat.reduceBEq, Nat.reduceLT, Nat.reduceLeDiff, reduceIte, reduceCtorEq, Int.reduceToNat, Int.reduceLT, Int.reduceGT, Int.reduceNeg, Int.reduceBEq, Int.reduceBNe]
          repeat refine And.intro (by first | omega | exact .inl trivial | rfl | (simp; done) | (simp; omega)) ?_
          rw [show (j : Int) + 1 = ((j + 1 : Nat) : Int) by omega]
          refine ainv hJ' (Shift.trans (Shift.low 4 (e' := [(13, .int .i64 ((j + 1 : Nat) : Int)), (12, .int .i64 x.paras.length), (11, .fz 2 (x.paras.map paA)), (3, .sl 1 0 (dn.length + 1) (dn.length + 1))]) (by simp) (by simp) ?_ ?_) (Shift.weakS ?_ ?_))
          · have := low_boT x dn (moreB cur p)
            rw [fin] at this
            exact this
          · simp only [wkl, lowV, lowC, Av.get, go_sem, Nat.reduceAdd, Nat.reduceMul, Nat.reduceBEq, Nat.reduceLT, Nat.reduceLeDiff, reduceIte, reduceCtorEq, Int.reduceToNat, Int.reduceLT, Int.reduceGT, Int.reduceNeg, Int.reduceBEq, Int.reduceBNe]
          · simp only [wk, go_sem, Nat.reduceAdd, Nat.reduceMul, Nat.reduceBEq, Nat.reduceLT, Nat.reduceLeDiff, reduceIte, reduceCtorEq, Int.reduceToNat, Int.reduceLT, Int.reduceGT, Int.reduceNeg, Int.reduceBEq, Int.reduceBNe]
          · rw [fin]; rfl
        · have k4 : p.kind = 4 := by
            simp only [joins, Bool.or_eq_true, beq_iff_eq] at hj
            omega
          have q1 : (p.kind == 1) = false := by simp [k4]
          have q5 : (p.kind == 5) = false := by simp [k4]
          have q2 : (p.kind == 2) = false := by simp [k4]
          have q3 : (p.kind == 3) = false := by simp [k4]
          have q4 : (p.kind == 4) = true := by simp [k4]
          have hadd := addSpeech_cth hS G cur p.text (by omega) (by omega) (by omega)
          have hmb : addB cur 2 10 (wrapL 35 p.text) = moreB cur p := by simp [moreB, k4]
          rw [hmb] at hadd
          simp only [grpS] at hadd
          refine goF (N := 65) Tryz.ntmps28 300 ?_
          simp only [go_sem, Nat.reduceAdd, Nat.reduceMul, Nat.reduceBEq, Nat.reduceLT, Nat.reduceLeDiff, reduceIte, reduceCtorEq, Int.reduceToNat, Int.reduceLT, Int.reduceGT, Int.reduceNeg, Int.reduceBEq, Int.reduceBNe, dj, hpA, q1, q5, q2, q3, q4, List.length_map]
          repeat refine And.intro (by first | omega | exact .inl trivial | rfl | (simp; done) | (simp; omega)) ?_
          refine adrawLast [] rfl mixed (by decide) rfl (N := 65) Tryz.ntmps28 (by decide) 100 ?_
          simp only [go_sem, Nat.reduceAdd, Nat.reduceMul, Nat.reduceBEq, Nat.reduceLT, Nat.reduceLeDiff, reduceIte, reduceCtorEq, Int.reduceToNat, Int.reduceLT, Int.reduceGT, Int.reduceNeg, Int.reduceBEq, Int.reduceBNe, runR, contR, brR, step1R, resNR, stopNR, exitNR, dxk, dxkc, dbrk, ↓brR_true, ↓brR_false, ↓dbrk_true, ↓dbrk_false, iniO, KLast, List.length_append, List.length_map, htn]
          repeat refine And.intro (by first | omega | exact .inl trivial | rfl | (simp; done) | (simp; omega)) ?_
          refine goF (N := 65) Tryz.ntmps28 300 ?_
          simp only [go_sem, Nat.reduceAdd, Nat.reduceMul, Nat.reduceBEq, Nat.reduceLT, Nat.reduceLeDiff, reduceIte, reduceCtorEq, Int.reduceToNat, Int.reduceLT, Int.reduceGT, Int.reduceNeg, Int.reduceBEq, Int.reduceBNe]
          refine acallH hg (hadd) (N := 65) Tryz.ntmps28 rfl ?_
          rintro _ _ ⟨rfl, rfl⟩
          refine goF (N := 65) Tryz.ntmps28 300 ?_
          simp only [go_sem, Nat.reduceAdd, Nat.reduceMul, Nat.reduceBEq, Nat.reduceLT, Nat.reduceLeDiff, reduceIte, reduceCtorEq, Int.reduceToNat, Int.reduceLT, Int.reduceGT, Int.reduceNeg, Int.reduceBEq, Int.reduceBNe]
          repeat refine And.intro (by first | omega | exact .inl trivial | rfl | (simp; done) | (simp; omega)) ?_
          rw [show (j : Int) + 1 = ((j + 1 : Nat) : Int) by omega]
          refine ainv hJ' (Shift.trans (Shift.low 4 (e' := [(13, .int .i64 ((j + 1 : Nat) : Int)), (12, .int .i64 x.paras.length), (11, .fz 2 (x.paras.map paA)), (3, .sl 1 0 (dn.length + 1) (dn.length + 1))]) (by simp) (by simp) ?_ ?_) (Shift.weakS ?_ ?_))
          · have := low_boT x dn (moreB cur p)
            rw [fin] at this
            exact this
          · simp only [wkl, lowV, lowC, Av.get, go_sem, Nat.reduceAdd, Nat.reduceMul, Nat.reduceBEq, Nat.reduceLT, Nat.reduceLeDiff, reduceIte, reduceCtorEq, Int.reduceToNat, Int.reduceLT, Int.reduceGT, Int.reduceNeg, Int.reduceBEq, Int.reduceBNe]
          · simp only [wk, go_sem, Nat.reduceAdd, Nat.reduceMul, Nat.reduceBEq, Nat.reduceLT, Nat.reduceLeDiff, reduceIte, reduceCtorEq, Int.reduceToNat, Int.reduceLT, Int.reduceGT, Int.reduceNeg, Int.reduceBEq, Int.reduceBNe]
          · rw [fin]; rfl
      | false =>
        have hst : bstep (dn, cur) p = (dn ++ [cur], newB p) := by simp [bstep, hj]
        rw [hst] at g4
        have hnl := newB_len p
        have hJ' := hJ (j + 1, dn ++ [cur], newB p, p.kind) ⟨by simp only; omega, g2, by
          simp only
          intro h
          rw [newB_kind]
          have hk := join_no hj
          omega, g4, by simp; omega, by simp only; omega, by simp only; omega⟩ (by simp only; omega)
        have hlen1 : (dn ++ [cur]).length + 1 = dn.length + 1 + 1 := by simp
        simp only [hlen1] at hJ'
        have hk15 : 1 ≤ p.kind ∧ p.kind ≤ 5 := by
          have := hok.1
          simp only [paraOk, Bool.and_eq_true, decide_eq_true_eq] at this
          exact ⟨this.1, this.2.1⟩
        have hkj := join_no hj
        refine AWp.shift (over_shift (e' := [(13, .int .i64 (j : Int)), (12, .int .i64 x.paras.length), (11, .fz 2 (x.paras.map paA)), (3, .sl 1 0 (dn.length + 1) (dn.length + 1))]) (by simp) (by simp only [wkl, lowV, lowC, Av.get, go_sem, Nat.reduceAdd, Nat.reduceMul, Nat.reduceBEq, Nat.reduceLT, Nat.reduceLeDiff, reduceIte, reduceCtorEq, Int.reduceToNat, Int.reduceLT, Int.reduceGT, Int.reduceNeg, Int.reduceBEq, Int.reduceBNe])) ?_
        have hlm : (List.map blA (dn ++ [cur])).length = dn.length + 1 := by simp
        by_cases k1 : p.kind = 1
        · have q1 : (p.kind == 1) = true := by simp [k1]
          have hna := newAction_pch hS p.text (by omega)
          have hnb : newB p = ⟨1, wrapL 60 p.text, [], []⟩ := by simp [newB, k1]
          have fin := boT_plain (x := x) (dn := dn ++ [cur]) (b := newB p) (by rw [hnb]; rfl)
          refine goF (N := 65) Tryz.ntmps28 300 ?_
          simp only [go_sem, Nat.reduceAdd, Nat.reduceMul, Nat.reduceBEq, Nat.reduceLT, Nat.reduceLeDiff, reduceIte, reduceCtorEq, Int.reduceToNat, Int.reduceLT, Int.reduceGT, Int.reduceNeg, Int.reduceBEq, Int.reduceBNe, dj, hpA, q1, hlm, List.length_map]
          repeat refine And.intro (by first | omega | exact .inl trivial | rfl | (simp; done) | (simp; omega)) ?_
          refine pcallH1 hg (hna) rfl (N := 65) Tryz.ntmps28 rfl (goF (N := 65) Tryz.ntmps28 300 ?_)
          simp only [blA]
          simp only [go_sem, Nat.reduceAdd, Nat.reduceMul, Nat.reduceBEq, Nat.reduceLT, Nat.reduceLeDiff, reduceIte, reduceCtorEq, Int.reduceToNat, Int.reduceLT, Int.reduceGT, Int.reduceNeg, Int.reduceBEq, Int.reduceBNe, hlm, List.length_map]
          repeat refine And.intro (by first | omega | exact .inl trivial | rfl | (simp; done) | (simp; omega)) ?_
          rw [hnb] at fin
          rw [hnb] at hJ'
          rw [show (j : Int) + 1 = ((j + 1 : Nat) : Int) by omega]
          refine ainv hJ' (Shift.trans (Shift.low 4 (e' := [(13, .int .i64 ((j + 1 : Nat) : Int)), (12, .int .i64 x.paras.length), (11, .fz 2 (x.paras.map paA)), (3, .sl 1 0 (dn.length + 1 + 1) (dn.length + 1 + 1))]) (by simp) (by simp) ?_ ?_) (Shift.weakS ?_ ?_))
          · have := low_boT x (dn ++ [cur]) ⟨1, wrapL 60 p.text, [], []⟩
            rw [fin] at this
            exact this
          · simp only [wkl, lowV, lowC, Av.get, go_sem, Nat.reduceAdd, Nat.reduceMul, Nat.reduceBEq, Nat.reduceLT, Nat.reduceLeDiff, reduceIte, reduceCtorEq, Int.reduceToNat, Int.reduceLT, Int.reduceGT, Int.reduceNeg, Int.reduceBEq, Int.reduceBNe]
          · simp only [wk, go_sem, Nat.reduceAdd, Nat.reduceMul, Nat.reduceBEq, Nat.reduceLT, Nat.reduceLeDiff, reduceIte, reduceCtorEq, Int.reduceToNat, Int.reduceLT, Int.reduceGT, Int.reduceNeg, Int.reduceBEq, Int.reduceBNe]
          · rw [fin]; rfl
        · by_cases k5 : p.kind = 5
          · have q1 : (p.kind == 1) = false := by simp [k5]
            have q5 : (p.kind == 5) = true := by simp [k5]
            have hna := newTurn_pc p.text (by omega)
            have hnb : newB p = ⟨2, [turnLine p.text], [], []⟩ := by simp [newB, k5]
            have fin := boT_plain (x := x) (dn := dn ++ [cur]) (b := newB p) (by rw [hnb]; rfl)
            refine goF (N := 65) Tryz.ntmps28 300 ?_
            simp only [go_sem, Nat.reduceAdd, Nat.reduceMul, Nat.reduceBEq, Nat.reduceLT, Nat.reduceLeDiff, reduceIte, reduceCtorEq, Int.reduceToNat, Int.reduceLT, Int.reduceGT, Int.reduceNeg, Int.reduceBEq, Int.reduceBNe, dj, hpA, q1, q5, hlm, List.length_map]
            repeat refine And.intro (by first | omega | exact .inl trivial | rfl | (simp; done) | (simp; omega)) ?_
            refine pcall1 (hna) rfl (N := 65) Tryz.ntmps28 rfl (goF (N := 65) Tryz.ntmps28 300 ?_)
            simp only [blA]
            simp only [go_sem, Nat.reduceAdd, Nat.reduceMul, Nat.reduceBEq, Nat.reduceLT, Nat.reduceLeDiff, reduceIte, reduceCtorEq, Int.reduceToNat, Int.reduceLT, Int.reduceGT, Int.reduceNeg, Int.reduceBEq, Int.reduceBNe, hlm, List.length_map]
            repeat refine And.intro (by first | omega | exact .inl trivial | rfl | (simp; done) | (simp; omega)) ?_
            rw [hnb] at fin
            rw [hnb] at hJ'
            rw [show (j : Int) + 1 = ((j + 1 : Nat) : Int) by omega]
            refine ainv hJ' (Shift.trans (Shift.low 4 (e' := [(13, .int .i64 ((j + 1 : Nat) : Int)), (12, .int .i64 x.paras.length), (11, .fz 2 (x.paras.map paA)), (3, .sl 1 0 (dn.length + 1 + 1) (dn.length + 1 + 1))]) (by simp) (by simp) ?_ ?_) (Shift.weakS ?_ ?_))
            · have := low_boT x (dn ++ [cur]) ⟨2, [turnLine p.text], [], []⟩
              rw [fin] at this
              exact this
            · simp only [wkl, lowV, lowC, Av.get, go_sem, Nat.reduceAdd, Nat.reduceMul, Nat.reduceBEq, Nat.reduceLT, Nat.reduceLeDiff, reduceIte, reduceCtorEq, Int.reduceToNat, Int.reduceLT, Int.reduceGT, Int.reduceNeg, Int.reduceBEq, Int.reduceBNe]
            · simp only [wk, go_sem, Nat.reduceAdd, Nat.reduceMul, Nat.reduceBEq, Nat.reduceLT, Nat.reduceLeDiff, reduceIte, reduceCtorEq, Int.reduceToNat, Int.reduceLT, Int.reduceGT, Int.reduceNeg, Int.reduceBEq, Int.reduceBNe]
            · rw [fin]; rfl

          · have k2 : p.kind = 2 := by omega
            have q1 : (p.kind == 1) = false := by simp [k2]
            have q5 : (p.kind == 5) = false := by simp [k2]
            have q2 : (p.kind == 2) = true := by simp [k2]
            have hnb : newB p = ⟨3, [indent 20 p.text], [0], p.text⟩ := by simp [newB, k2]
            have fin := boT_group (x := x) (dn := dn ++ [cur]) (b := newB p) (by rw [hnb]; rfl)
            refine goF (N := 65) Tryz.ntmps28 300 ?_
            simp only [go_sem, Nat.reduceAdd, Nat.reduceMul, Nat.reduceBEq, Nat.reduceLT, Nat.reduceLeDiff, reduceIte, reduceCtorEq, Int.reduceToNat, Int.reduceLT, Int.reduceGT, Int.reduceNeg, Int.reduceBEq, Int.reduceBNe, dj, hpA, q1, q5, q2, hlm, List.length_map]
            repeat refine And.intro (by first | omega | exact .inl trivial | rfl | (simp; done) | (simp; omega)) ?_
            refine acall (newGroup_ct _ _ _ p.text (by omega)) (N := 65) Tryz.ntmps28 rfl ?_
            rintro _ _ ⟨rfl, b5, b6, rfl⟩
            simp only [grpA]
            refine go (N := 65) Tryz.ntmps28 300 ?_
            simp only [go_sem, Nat.reduceAdd, Nat.reduceMul, Nat.reduceBEq, Nat.reduceLT, Nat.reduceLeDiff, reduceIte, reduceCtorEq, Int.reduceToNat, Int.reduceLT, Int.reduceGT, Int.reduceNeg, Int.reduceBEq, Int.reduceBNe, hlm, List.length_map]
            repeat refine And.intro (by first | omega | exact .inl trivial | rfl | (simp; done) | (simp; omega)) ?_
            rw [hnb] at fin
            rw [hnb] at hJ'
            simp only [List.map_cons, List.map_nil, List.length_cons, List.length_nil, Nat.zero_add, grpA] at fin
            rw [show (j : Int) + 1 = ((j + 1 : Nat) : Int) by omega]
            refine ainv hJ' (Shift.trans (Shift.low 4 (e' := [(13, .int .i64 ((j + 1 : Nat) : Int)), (12, .int .i64 x.paras.length), (11, .fz 2 (x.paras.map paA)), (3, .sl 1 0 (dn.length + 1 + 1) (dn.length + 1 + 1))]) (by simp) (by simp) ?_ ?_) (Shift.weakS ?_ ?_))
            · have := low_boT x (dn ++ [cur]) ⟨3, [indent 20 p.text], [0], p.text⟩
              rw [fin] at this
              exact this
            · simp only [wkl, lowV, lowC, Av.get, go_sem, Nat.reduceAdd, Nat.reduceMul, Nat.reduceBEq, Nat.reduceLT, Nat.reduceLeDiff, reduceIte, reduceCtorEq, Int.reduceToNat, Int.reduceLT, Int.reduceGT, Int.reduceNeg, Int.reduceBEq, Int.reduceBNe]
            · simp only [wk, go_sem, Nat.reduceAdd, Nat.reduceMul, Nat.reduceBEq, Nat.reduceLT, Nat.reduceLeDiff, reduceIte, reduceCtorEq, Int.reduceToNat, Int.reduceLT, Int.reduceGT, Int.reduceNeg, Int.reduceBEq, Int.reduceBNe]
            · rw [fin]; rfl

    · have dj : decide ((j : Int) < (x.paras.length : Int)) = false := by simp; omega
      have hj : j = x.paras.length := by omega
      subst hj
      rw [List.drop_length] at g4
      simp only [List.foldl_nil] at g4
      have hbl : blocksL x = dn ++ [cur] := by simp [blocksL, ← g4]
      refine AWp.shift (over_shift (e' := [(13, .int .i64 (x.paras.length : Int)), (12, .int .i64 x.paras.length), (11, .fz 2 (x.paras.map paA)), (3, .sl 1 0 (dn.length + 1) (dn.length + 1))]) (by simp) (by simp only [wkl, lowV, lowC, Av.get, go_sem, Nat.reduceAdd, Nat.reduceMul, Nat.reduceBEq, Nat.reduceLT, Nat.reduceLeDiff, reduceIte, reduceCtorEq, Int.reduceToNat, Int.reduceLT, Int.reduceGT, Int.reduceNeg, Int.reduceBEq, Int.reduceBNe])) ?_
      refine goF (N := 65) Tryz.ntmps28 300 ?_
      simp only [go_sem, Nat.reduceAdd, Nat.reduceMul, Nat.reduceBEq, Nat.reduceLT, Nat.reduceLeDiff, reduceIte, reduceCtorEq, Int.reduceToNat, Int.reduceLT, Int.reduceGT, Int.reduceNeg, Int.reduceBEq, Int.reduceBNe, dj]
      refine ARet.shift (Shift.freeze 2 (id := 1) rfl rfl (by simp) (Nat.le_refl _) (frozen_bls _)) (aret [2] rfl ⟨?_, rfl⟩)
      simp [resV, Av.get, Av.put, List.take_of_length_le, hbl]
end Go.Proofs.YtikbgjhajgjjdaaGreatDoor
