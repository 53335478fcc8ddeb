/- Scripts with numbers from 1 on. Own work of this seat. -/
import Derived.Test.YtikbgjhajgjjdaaGreatDoorP33
import Derived.Test.YtikbgjhajgjjdaaGreatDoorP19
import Derived.Test.YtikbgjhajgjjdaaGreatDoorP14
import Derived.Test.YtikbgjhajgjjdaaGreatDoorP40
set_option maxRecDepth 100000
set_option linter.unusedSimpArgs false
set_option linter.unusedVariables false
namespace Go.Proofs.YtikbgjhajgjjdaaGreatDoor
open Go Go.Av Go.RowKit
attribute [local go_sem ↓] br_true br_false dbr_true dbr_false dbri_true dbri_false dbrg_true dbrg_false
attribute [local go_sem] run cont br dbr dx dxc dgrd dyld dres dcall calm fieldPlace? allHas step1 opN grdN resN condN exitN stopN exitIt dOk xop xbin xint xarith xstr xbool xpick xnot xneg xextract xpart xpartOk xindex xfieldF fieldD xnew xbox xalloc xfieldAddr xptrAddIf xindexAddr xloadC xload putCells reElem xstoreB xstore xconv xtext xlen xlen2 xcall xfill xbuild cut rep xbuildSlice xbuildSliceD isRow elemD isU8 ev evs evp Go.Av.put Go.Av.get ofConst yldD yldV notBool_undef args0 cellsOf cond_true cond_false decide_true decide_false decide_eq_true_eq decide_eq_false_iff_not List.getElem?_cons_zero List.getElem?_cons_succ List.getElem?_nil List.getD_cons_zero List.getD_cons_succ List.getD_nil List.set_cons_zero List.set_cons_succ List.length_cons List.length_nil List.cons_append List.nil_append List.append_nil List.all_cons List.all_nil List.map_cons List.map_nil List.take_succ_cons List.take_zero List.drop_succ_cons List.drop_zero Bool.and_true Bool.true_and Bool.and_self Bool.and_false Bool.false_and one Go.Av.frozen beq_self_eq_true true_and and_true forall_const false_implies implies_true and_self Option.map_some Option.map_none Nat.zero_add Nat.add_zero Nat.zero_mul Nat.mul_one Nat.one_mul Int.toNat_zero ne_eq not_false_eq_true not_true_eq_false Bool.true_eq_false Bool.false_eq_true List.toList_toArray inr Go.Av.byteOf isByte decide_eq_decide Bool.not_true Bool.not_false Bool.not_eq_true' Bool.or_true Bool.true_or Bool.or_false Bool.false_or ge_iff_le gt_iff_lt and_assoc Bool.decide_eq_true beq_iff_eq beq_eq_false_iff_ne bne_iff_ne bne_self_eq_false if_true if_false Bool.and_eq_true Bool.or_eq_true Bool.and_eq_false_imp Bool.or_eq_false_iff Bool.not_eq_false' has Option.isSome_some Option.isSome_none Int.toNat_natCast Int.cast_ofNat_Int List.length_append xapp2 xapp xappS xappD xappB notInt srcOf srcB byteAV splice' xcut xcutS xcutF xcutB xcutN xcut0 cutL loOf hiOf evo xmake zelem xmax xcopy2 xcopyS xcopyB xnil xcut3 ixOf xclear2 xclearB List.getElem?_toArray xbin2 xnileq xempty xmkmap xmput xmputB xmputF isKey keyEq mfind xbin3 xeqs xeqop eqFs bothB leafEq xlook xlookB xlookF xbytes beq_c_n beq_n_c bne_c_n bne_n_c one_nil dxi dxic dbri rix dck reader blind opOk refOk Go.Op.operands Go.Call.operands List.contains_cons List.contains_nil dxg dxgc dbrg pck putD List.lookup_cons List.lookup_nil ts2 tb2 zl2 za2 Tryz.underlying2 ts3 tb3 zl3 za3 Tryz.underlying3 ts4 tb4 zl4 za4 Tryz.underlying4 ts5 tb5 zl5 za5 Tryz.underlying5 ts6 tb6 zl6 za6 Tryz.underlying6 ts7 tb7 za7 Tryz.underlying7 ts8 tb8 za8 Tryz.underlying8 ts9 tb9 zl9 za9 Tryz.underlying9 ts10 tb10 zl10 za10 Tryz.underlying10 ts11 tb11 zl11 za11 Tryz.underlying11 ts12 tb12 zl12 za12 Tryz.underlying12 ts13 tb13 za13 Tryz.underlying13 ts14 tb14 za14 Tryz.underlying14 ts18 tb18 za18 Tryz.underlying18 ts19 tb19 za19 Tryz.underlying19 ts21 tb21 zl21 za21 Tryz.underlying21 ts22 tb22 zl22 za22 Tryz.underlying22 ts24 tb24 za24 Tryz.underlying24 ts25 tb25 za25 Tryz.underlying25 ts26 tb26 zl26 za26 Tryz.underlying26 ts27 tb27 za27 Tryz.underlying27 ts28 tb28 za28 Tryz.underlying28 ts30 tb30 zl30 za30 Tryz.underlying30 ts31 tb31 zl31 za31 Tryz.underlying31 ts34 tb34 zl34 za34 Tryz.underlying34 ts35 tb35 zl35 za35 Tryz.underlying35 ts36 tb36 za36 Tryz.underlying36 ts37 tb37 za37 Tryz.underlying37 ts46 tb46 za46 Tryz.underlying46 ts47 tb47 za47 Tryz.underlying47 ts61 tb61 zl61 za61 Tryz.underlying61 ts62 tb62 za62 Tryz.underlying62 ts63 tb63 za63 Tryz.underlying63 ts66 tb66 zl66 za66 Tryz.underlying66 ts68 tb68 zl68 za68 Tryz.underlying68 ts74 tb74 za74 Tryz.underlying74 ts75 tb75 za75 Tryz.underlying75 ts77 tb77 zl77 za77 Tryz.underlying77 ts81 tb81 zl81 za81 Tryz.underlying81 ts82 tb82 za82 Tryz.underlying82 ts83 tb83 za83 Tryz.underlying83 ts86 tb86 zl86 za86 Tryz.underlying86 ts102 tb102 za102 Tryz.underlying102 ts103 tb103 za103 Tryz.underlying103 ts106 tb106 za106 Tryz.underlying106 ts107 tb107 za107 Tryz.underlying107 ts114 tb114 zl114 za114 Tryz.underlying114 ts117 tb117 zl117 za117 Tryz.underlying117 ts120 tb120 zl120 za120 Tryz.underlying120 ts133 tb133 zl133 za133 Tryz.underlying133 ts144 tb144 zl144 za144 Tryz.underlying144 ts151 tb151 zl151 za151 Tryz.underlying151 ts156 tb156 zl156 za156 Tryz.underlying156 ts160 tb160 Tryz.underlying160 ts169 tb169 za169 Tryz.underlying169 ts170 tb170 za170 Tryz.underlying170 ts175 tb175 Tryz.underlying175 ts180 tb180 za180 Tryz.underlying180 ts181 tb181 za181 Tryz.underlying181 ts185 tb185 za185 Tryz.underlying185 ts186 tb186 za186 Tryz.underlying186 ts187 tb187 Tryz.underlying187 ts189 tb189 Tryz.underlying189 ts190 tb190 Tryz.underlying190 ts191 tb191 za191 Tryz.underlying191 ts192 tb192 za192 Tryz.underlying192 ts196 tb196 zl196 za196 Tryz.underlying196 ts197 tb197 zl197 za197 Tryz.underlying197 ts199 tb199 zl199 za199 Tryz.underlying199 ts200 tb200 zl200 za200 Tryz.underlying200 ts201 tb201 za201 Tryz.underlying201 ts202 tb202 za202 Tryz.underlying202

theorem clone0_pc : Pc Tryz.prog 43 [.fz 5 []] (· = .fz 5 []) := by
  refine pc_intro (ct_intro Tryz.func43 rfl Tryz.ntmps43 hB43 (by simp) fun h ρ w => go (N := 8) Tryz.ntmps43 300 ?_)
  simp only [go_sem, Nat.reduceAdd, Nat.reduceMul, Nat.reduceSub, Nat.reduceBEq, Nat.reduceLT, Nat.reduceLeDiff, reduceIte, reduceCtorEq, Int.reduceToNat, Int.reduceLE, Int.reduceLT, Int.reduceNe, Int.reduceMul, Int.reduceAdd, Int.reduceSub, Int.reduceDiv, Int.reduceMod, Int.reduceEq, Int.reduceGE, Int.reduceGT, Int.reduceNeg, Int.reduceBEq, Int.reduceBNe, Nat.reduceEqDiff]
  intro b
  refine go (N := 8) Tryz.ntmps43 300 ?_
  cases b with
  | true =>
    simp only [go_sem, Nat.reduceAdd, Nat.reduceMul, Nat.reduceSub, Nat.reduceBEq, Nat.reduceLT, Nat.reduceLeDiff, reduceIte, reduceCtorEq, Int.reduceToNat, Int.reduceLE, Int.reduceLT, Int.reduceNe, Int.reduceMul, Int.reduceAdd, Int.reduceSub, Int.reduceDiv, Int.reduceMod, Int.reduceEq, Int.reduceGE, Int.reduceGT, Int.reduceNeg, Int.reduceBEq, Int.reduceBNe, Nat.reduceEqDiff]
    exact ARet.shift (Shift.nilfz 2 5 rfl) (aret [2] rfl ⟨rfl, rfl⟩)
  | false =>
    simp only [go_sem, Nat.reduceAdd, Nat.reduceMul, Nat.reduceSub, Nat.reduceBEq, Nat.reduceLT, Nat.reduceLeDiff, reduceIte, reduceCtorEq, Int.reduceToNat, Int.reduceLE, Int.reduceLT, Int.reduceNe, Int.reduceMul, Int.reduceAdd, Int.reduceSub, Int.reduceDiv, Int.reduceMod, Int.reduceEq, Int.reduceGE, Int.reduceGT, Int.reduceNeg, Int.reduceBEq, Int.reduceBNe, Nat.reduceEqDiff]
    refine ⟨.inl trivial, ?_⟩
    exact ARet.shift (Shift.freeze 2 (id := 0) rfl rfl rfl (Nat.le_refl _) rfl) (aret [2] rfl ⟨rfl, rfl⟩)
theorem clone_ct (x : Sc) (xs : List Sc) (hl : xs.length ≤ 100000) :
    Ct Tryz.prog 43 [.fz 5 ((x :: xs).map scA)] [] (fun r s => r = .sl 0 0 (x :: xs).length (x :: xs).length ∧ s = [.arr 5 ((x :: xs).map scA)]) := by
  refine ct_intro Tryz.func43 rfl Tryz.ntmps43 hB43 (by simp) fun h ρ w => go (N := 8) Tryz.ntmps43 300 ?_
  simp only [go_sem, Nat.reduceAdd, Nat.reduceMul, Nat.reduceSub, Nat.reduceBEq, Nat.reduceLT, Nat.reduceLeDiff, reduceIte, reduceCtorEq, Int.reduceToNat, Int.reduceLE, Int.reduceLT, Int.reduceNe, Int.reduceMul, Int.reduceAdd, Int.reduceSub, Int.reduceDiv, Int.reduceMod, Int.reduceEq, Int.reduceGE, Int.reduceGT, Int.reduceNeg, Int.reduceBEq, Int.reduceBNe, Nat.reduceEqDiff, scA]
  refine ⟨by simp, by simp; omega, by simp; omega, aret [2] rfl ⟨by simp [resV, Av.get, scA], rfl⟩⟩

def nm (i : Nat) (x : Sc) : Sc := { x with no := Lib.itoa ((i : Int) + 1) }
def numL : Nat → List Sc → List Sc
  | _, [] => []
  | i, x :: r => nm i x :: numL (i + 1) r
def numR (x : Sr) : Sr := ⟨x.title, numL 0 x.scenes⟩

set_option maxHeartbeats 2000000 in
theorem numbered_pch {S : Std} (hS : LibOk S) (x : Sr) (hl : x.scenes.length ≤ 1000) : PcH Tryz.prog S 21 [srA x] (· = srA (numR x)) := by
  obtain ⟨ti, xs⟩ := x
  cases xs with
  | nil =>
    simp only [srA, List.map_nil, numR, numL]
    refine pch_intro (cth_intro Tryz.func21 rfl Tryz.ntmps21 hB21 (by simp) fun h ρ w hg => go (N := 27) Tryz.ntmps21 300 ?_)
    simp only [go_sem, Nat.reduceAdd, Nat.reduceMul, Nat.reduceSub, Nat.reduceBEq, Nat.reduceLT, Nat.reduceLeDiff, reduceIte, reduceCtorEq, Int.reduceToNat, Int.reduceLE, Int.reduceLT, Int.reduceNe, Int.reduceMul, Int.reduceAdd, Int.reduceSub, Int.reduceDiv, Int.reduceMod, Int.reduceEq, Int.reduceGE, Int.reduceGT, Int.reduceNeg, Int.reduceBEq, Int.reduceBNe, Nat.reduceEqDiff]
    refine adrawI [] 99 [.fz 5 []] mixed (by decide) (N := 27) Tryz.ntmps21 (by decide) 100 ?_
    simp only [go_sem, Nat.reduceAdd, Nat.reduceMul, Nat.reduceSub, Nat.reduceBEq, Nat.reduceLT, Nat.reduceLeDiff, reduceIte, reduceCtorEq, Int.reduceToNat, Int.reduceLE, Int.reduceLT, Int.reduceNe, Int.reduceMul, Int.reduceAdd, Int.reduceSub, Int.reduceDiv, Int.reduceMod, Int.reduceEq, Int.reduceGE, Int.reduceGT, Int.reduceNeg, Int.reduceBEq, Int.reduceBNe, Nat.reduceEqDiff]
    refine ⟨clone0_pc.at, rfl, ?_⟩
    refine go (N := 27) Tryz.ntmps21 300 ?_
    simp only [go_sem, Nat.reduceAdd, Nat.reduceMul, Nat.reduceSub, Nat.reduceBEq, Nat.reduceLT, Nat.reduceLeDiff, reduceIte, reduceCtorEq, Int.reduceToNat, Int.reduceLE, Int.reduceLT, Int.reduceNe, Int.reduceMul, Int.reduceAdd, Int.reduceSub, Int.reduceDiv, Int.reduceMod, Int.reduceEq, Int.reduceGE, Int.reduceGT, Int.reduceNeg, Int.reduceBEq, Int.reduceBNe, Nat.reduceEqDiff]
    refine aenter (around (go (N := 27) Tryz.ntmps21 300 ?_))
    simp only [go_sem, Nat.reduceAdd, Nat.reduceMul, Nat.reduceSub, Nat.reduceBEq, Nat.reduceLT, Nat.reduceLeDiff, reduceIte, reduceCtorEq, Int.reduceToNat, Int.reduceLE, Int.reduceLT, Int.reduceNe, Int.reduceMul, Int.reduceAdd, Int.reduceSub, Int.reduceDiv, Int.reduceMod, Int.reduceEq, Int.reduceGE, Int.reduceGT, Int.reduceNeg, Int.reduceBEq, Int.reduceBNe, Nat.reduceEqDiff]
    exact aretc [.cell 2 28] rfl [_] ⟨by simp only [go_sem, Nat.reduceAdd, Nat.reduceMul, Nat.reduceSub, Nat.reduceBEq, Nat.reduceLT, Nat.reduceLeDiff, reduceIte, reduceCtorEq, Int.reduceToNat, Int.reduceLE, Int.reduceLT, Int.reduceNe, Int.reduceMul, Int.reduceAdd, Int.reduceSub, Int.reduceDiv, Int.reduceMod, Int.reduceEq, Int.reduceGE, Int.reduceGT, Int.reduceNeg, Int.reduceBEq, Int.reduceBNe, Nat.reduceEqDiff, sideIs], trivial⟩ ⟨rfl, rfl⟩
  | cons x xs =>
    simp only [srA]
    refine pch_intro (cth_intro Tryz.func21 rfl Tryz.ntmps21 hB21 (by simp) fun h ρ w hg => go (N := 27) Tryz.ntmps21 300 ?_)
    simp only [go_sem, Nat.reduceAdd, Nat.reduceMul, Nat.reduceSub, Nat.reduceBEq, Nat.reduceLT, Nat.reduceLeDiff, reduceIte, reduceCtorEq, Int.reduceToNat, Int.reduceLE, Int.reduceLT, Int.reduceNe, Int.reduceMul, Int.reduceAdd, Int.reduceSub, Int.reduceDiv, Int.reduceMod, Int.reduceEq, Int.reduceGE, Int.reduceGT, Int.reduceNeg, Int.reduceBEq, Int.reduceBNe, Nat.reduceEqDiff]
    refine AWp.shift (Shift.reserve 5) ?_
    refine adrawI [4] 2 [] mixed (by decide) (N := 27) Tryz.ntmps21 (by decide) 100 ?_
    simp only [go_sem, Nat.reduceAdd, Nat.reduceMul, Nat.reduceSub, Nat.reduceBEq, Nat.reduceLT, Nat.reduceLeDiff, reduceIte, reduceCtorEq, Int.reduceToNat, Int.reduceLE, Int.reduceLT, Int.reduceNe, Int.reduceMul, Int.reduceAdd, Int.reduceSub, Int.reduceDiv, Int.reduceMod, Int.reduceEq, Int.reduceGE, Int.reduceGT, Int.reduceNeg, Int.reduceBEq, Int.reduceBNe, Nat.reduceEqDiff]
    have hfro : (flat ((x :: xs).map scA)).all Av.frozen = true := frozen_scenes (x :: xs)
    refine icall_new (clone_ct x xs (by simp at hl ⊢; omega)) (by simp) (by simp) rfl hfro rfl ?_
    simp only [go_sem, Nat.reduceAdd, Nat.reduceMul, Nat.reduceSub, Nat.reduceBEq, Nat.reduceLT, Nat.reduceLeDiff, reduceIte, reduceCtorEq, Int.reduceToNat, Int.reduceLE, Int.reduceLT, Int.reduceNe, Int.reduceMul, Int.reduceAdd, Int.reduceSub, Int.reduceDiv, Int.reduceMod, Int.reduceEq, Int.reduceGE, Int.reduceGT, Int.reduceNeg, Int.reduceBEq, Int.reduceBNe, Nat.reduceEqDiff]
    refine go (N := 27) Tryz.ntmps21 300 ?_
    simp only [go_sem, Nat.reduceAdd, Nat.reduceMul, Nat.reduceSub, Nat.reduceBEq, Nat.reduceLT, Nat.reduceLeDiff, reduceIte, reduceCtorEq, Int.reduceToNat, Int.reduceLE, Int.reduceLT, Int.reduceNe, Int.reduceMul, Int.reduceAdd, Int.reduceSub, Int.reduceDiv, Int.reduceMod, Int.reduceEq, Int.reduceGE, Int.reduceGT, Int.reduceNeg, Int.reduceBEq, Int.reduceBNe, Nat.reduceEqDiff]
    refine ⟨by simp, ?_⟩
    have hys : AV.fz 5 (List.map scA (numR ⟨ti, x :: xs⟩).scenes) = .fz 5 (List.map scA (numL 0 (x :: xs))) := rfl
    rw [hys]
    clear hys
    have hl' : xs.length + 1 ≤ 1000 := by simpa using hl
    have hnum : ∃ out, numL 0 (x :: xs) = out := ⟨_, rfl⟩
    obtain ⟨out, hout⟩ := hnum
    rw [hout]
    refine aloop (ι := List Sc × List Sc) (fun y => y.2.length)
      (fun y => [(14, .int .i64 y.1.length), (13, .int .i64 ↑(xs.length + 1)), (3, .ptr 3 1 0 0), (2, .ptr 1 1 0 0)])
      (fun y => [.arr 2 [.agg [.str ti, .fz 5 (scA x :: List.map scA xs)]], .arr 2 [.agg [.str [], .raw (.slice none 0 0)]], .arr 5 (List.map scA (y.1 ++ y.2)), .arr 2 [.agg [.str ti, .sl 2 0 (xs.length + 1) (xs.length + 1)]]])
      (fun y => y.1.length + y.2.length = xs.length + 1 ∧ y.1 ++ numL y.1.length y.2 = out) ([], x :: xs) ⟨by simp, hout⟩ ?_ ?_
    · refine Shift.weak ?_
      simp only [wk, go_sem, Nat.reduceAdd, Nat.reduceMul, Nat.reduceSub, Nat.reduceBEq, Nat.reduceLT, Nat.reduceLeDiff, reduceIte, reduceCtorEq, Int.reduceToNat, Int.reduceLE, Int.reduceLT, Int.reduceNe, Int.reduceMul, Int.reduceAdd, Int.reduceSub, Int.reduceDiv, Int.reduceMod, Int.reduceEq, Int.reduceGE, Int.reduceGT, Int.reduceNeg, Int.reduceBEq, Int.reduceBNe, Nat.reduceEqDiff]
    · rintro ⟨dn, rest⟩ ⟨g1, g2⟩ J hJ
      simp only at g1 g2 hJ ⊢
      cases rest with
      | cons y r =>
        have di : decide ((dn.length : Int) < ((xs.length + 1 : Nat) : Int)) = true := by simp at g1 ⊢; omega
        refine go (N := 27) Tryz.ntmps21 300 ?_
        simp only [go_sem, Nat.reduceAdd, Nat.reduceMul, Nat.reduceSub, Nat.reduceBEq, Nat.reduceLT, Nat.reduceLeDiff, reduceIte, reduceCtorEq, Int.reduceToNat, Int.reduceLE, Int.reduceLT, Int.reduceNe, Int.reduceMul, Int.reduceAdd, Int.reduceSub, Int.reduceDiv, Int.reduceMod, Int.reduceEq, Int.reduceGE, Int.reduceGT, Int.reduceNeg, Int.reduceBEq, Int.reduceBNe, Nat.reduceEqDiff, di]
        refine adraw [.str (Lib.itoa ((dn.length : Int) + 1))] mixed (by decide) (N := 27) Tryz.ntmps21 (by decide) 100 ?_
        have hx : List.getD (List.map scA (dn ++ y :: r)) dn.length .any = .agg [.str y.no, .int .i64 y.place, .str y.set, .int .i64 y.time, .fz 2 (y.paras.map paA)] := by simp [List.getD, scA]
        simp only [go_sem, Nat.reduceAdd, Nat.reduceMul, Nat.reduceSub, Nat.reduceBEq, Nat.reduceLT, Nat.reduceLeDiff, reduceIte, reduceCtorEq, Int.reduceToNat, Int.reduceLE, Int.reduceLT, Int.reduceNe, Int.reduceMul, Int.reduceAdd, Int.reduceSub, Int.reduceDiv, Int.reduceMod, Int.reduceEq, Int.reduceGE, Int.reduceGT, Int.reduceNeg, Int.reduceBEq, Int.reduceBNe, Nat.reduceEqDiff, hx]
        refine ⟨by omega, by omega, (itoa_pch hS _ (by omega) (by omega)).at hg, rfl, by simp at g1 ⊢; omega, by omega, by simp at g1 ⊢; omega, by omega, by simp, ?_⟩
        have hset : (List.map scA (dn ++ y :: r)).set dn.length (.agg [.str (Lib.itoa ((dn.length : Int) + 1)), .int .i64 y.place, .str y.set, .int .i64 y.time, .fz 2 (y.paras.map paA)]) = List.map scA ((dn ++ [nm dn.length y]) ++ r) := by
          simp [nm, scA]
        rw [hset]
        refine go (N := 27) Tryz.ntmps21 300 ?_
        simp only [go_sem, Nat.reduceAdd, Nat.reduceMul, Nat.reduceSub, Nat.reduceBEq, Nat.reduceLT, Nat.reduceLeDiff, reduceIte, reduceCtorEq, Int.reduceToNat, Int.reduceLE, Int.reduceLT, Int.reduceNe, Int.reduceMul, Int.reduceAdd, Int.reduceSub, Int.reduceDiv, Int.reduceMod, Int.reduceEq, Int.reduceGE, Int.reduceGT, Int.reduceNeg, Int.reduceBEq, Int.reduceBNe, Nat.reduceEqDiff]
        refine ⟨by omega, by omega, ?_⟩
        rw [show (dn.length : Int) + 1 = ((dn ++ [nm dn.length y]).length : Int) by simp]
        refine ainv (hJ (dn ++ [nm dn.length y], r) ⟨by simp at g1 ⊢; omega, by rw [← g2]; simp [numL]⟩ (by simp)) (Shift.weak ?_)
        simp only [wk, go_sem, Nat.reduceAdd, Nat.reduceMul, Nat.reduceSub, Nat.reduceBEq, Nat.reduceLT, Nat.reduceLeDiff, reduceIte, reduceCtorEq, Int.reduceToNat, Int.reduceLE, Int.reduceLT, Int.reduceNe, Int.reduceMul, Int.reduceAdd, Int.reduceSub, Int.reduceDiv, Int.reduceMod, Int.reduceEq, Int.reduceGE, Int.reduceGT, Int.reduceNeg, Int.reduceBEq, Int.reduceBNe, Nat.reduceEqDiff]
      | nil =>
        have di : decide (((xs.length + 1 : Nat) : Int) < ((xs.length + 1 : Nat) : Int)) = false := by simp
        simp only [List.append_nil, numL] at g2 ⊢
        subst g2
        have hn : dn.length = xs.length + 1 := by simpa using g1
        refine AWp.shift (Shift.frz 2 rfl (frozen_scenes dn)) ?_
        simp only [frzE, frz, frz1, frzB, List.map_cons, List.map_nil, List.set_cons_succ, List.set_cons_zero, Nat.reduceBEq, cond_true, cond_false, Bool.false_and, Bool.true_and, List.length_map, Nat.zero_add, hn, decide_true, Nat.le_refl, List.drop_zero]
        have : List.take (xs.length + 1) (List.map scA dn) = List.map scA dn := List.take_of_length_le (by simp; omega)
        simp only [this]
        refine go (N := 27) Tryz.ntmps21 300 ?_
        simp only [go_sem, Nat.reduceAdd, Nat.reduceMul, Nat.reduceSub, Nat.reduceBEq, Nat.reduceLT, Nat.reduceLeDiff, reduceIte, reduceCtorEq, Int.reduceToNat, Int.reduceLE, Int.reduceLT, Int.reduceNe, Int.reduceMul, Int.reduceAdd, Int.reduceSub, Int.reduceDiv, Int.reduceMod, Int.reduceEq, Int.reduceGE, Int.reduceGT, Int.reduceNeg, Int.reduceBEq, Int.reduceBNe, Nat.reduceEqDiff, di]
        exact aretc [.cell 2 28] rfl [_] ⟨by simp only [go_sem, Nat.reduceAdd, Nat.reduceMul, Nat.reduceSub, Nat.reduceBEq, Nat.reduceLT, Nat.reduceLeDiff, reduceIte, reduceCtorEq, Int.reduceToNat, Int.reduceLE, Int.reduceLT, Int.reduceNe, Int.reduceMul, Int.reduceAdd, Int.reduceSub, Int.reduceDiv, Int.reduceMod, Int.reduceEq, Int.reduceGE, Int.reduceGT, Int.reduceNeg, Int.reduceBEq, Int.reduceBNe, Nat.reduceEqDiff, sideIs, numR], trivial⟩ ⟨rfl, rfl⟩
end Go.Proofs.YtikbgjhajgjjdaaGreatDoor
