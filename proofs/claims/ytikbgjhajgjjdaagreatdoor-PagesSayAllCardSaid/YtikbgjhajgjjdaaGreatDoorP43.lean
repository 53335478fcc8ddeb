/- Draws: a story; any right script. Own work of this seat. -/
import Derived.Test.YtikbgjhajgjjdaaGreatDoorP42
set_option maxRecDepth 100000
set_option linter.unusedSimpArgs false
set_option linter.unusedVariables false
namespace Go.Proofs.YtikbgjhajgjjdaaGreatDoor
open Go Go.Av Go.RowKit
attribute [local go_sem ↓] br_true br_false dbr_true dbr_false dbri_true dbri_false dbrg_true dbrg_false
attribute [local go_sem] run cont br dbr dx dxc dgrd dyld dres dcall calm fieldPlace? allHas step1 opN grdN resN condN exitN stopN exitIt dOk xop xbin xint xarith xstr xbool xpick xnot xneg xextract xpart xpartOk xindex xfieldF fieldD xnew xbox xalloc xfieldAddr xptrAddIf xindexAddr xloadC xload putCells reElem xstoreB xstore xconv xtext xlen xlen2 xcall xfill xbuild cut rep xbuildSlice xbuildSliceD isRow elemD isU8 ev evs evp Go.Av.put Go.Av.get ofConst yldD yldV notBool_undef args0 cellsOf cond_true cond_false decide_true decide_false decide_eq_true_eq decide_eq_false_iff_not List.getElem?_cons_zero List.getElem?_cons_succ List.getElem?_nil List.getD_cons_zero List.getD_cons_succ List.getD_nil List.set_cons_zero List.set_cons_succ List.length_cons List.length_nil List.cons_append List.nil_append List.append_nil List.all_cons List.all_nil List.map_cons List.map_nil List.take_succ_cons List.take_zero List.drop_succ_cons List.drop_zero Bool.and_true Bool.true_and Bool.and_self Bool.and_false Bool.false_and one Go.Av.frozen beq_self_eq_true true_and and_true forall_const false_implies implies_true and_self Option.map_some Option.map_none Nat.zero_add Nat.add_zero Nat.zero_mul Nat.mul_one Nat.one_mul Int.toNat_zero ne_eq not_false_eq_true not_true_eq_false Bool.true_eq_false Bool.false_eq_true List.toList_toArray inr Go.Av.byteOf isByte decide_eq_decide Bool.not_true Bool.not_false Bool.not_eq_true' Bool.or_true Bool.true_or Bool.or_false Bool.false_or ge_iff_le gt_iff_lt and_assoc Bool.decide_eq_true beq_iff_eq beq_eq_false_iff_ne bne_iff_ne bne_self_eq_false if_true if_false Bool.and_eq_true Bool.or_eq_true Bool.and_eq_false_imp Bool.or_eq_false_iff Bool.not_eq_false' has Option.isSome_some Option.isSome_none Int.toNat_natCast Int.cast_ofNat_Int List.length_append xapp2 xapp xappS xappD xappB notInt srcOf srcB byteAV splice' xcut xcutS xcutF xcutB xcutN xcut0 cutL loOf hiOf evo xmake zelem xmax xcopy2 xcopyS xcopyB xnil xcut3 ixOf xclear2 xclearB List.getElem?_toArray xbin2 xnileq xempty xmkmap xmput xmputB xmputF isKey keyEq mfind xbin3 xeqs xeqop eqFs bothB leafEq xlook xlookB xlookF xbytes beq_c_n beq_n_c bne_c_n bne_n_c one_nil dxi dxic dbri rix dck reader blind opOk refOk Go.Op.operands Go.Call.operands List.contains_cons List.contains_nil dxg dxgc dbrg pck putD List.lookup_cons List.lookup_nil ts2 tb2 zl2 za2 Tryz.underlying2 ts3 tb3 zl3 za3 Tryz.underlying3 ts4 tb4 zl4 za4 Tryz.underlying4 ts5 tb5 zl5 za5 Tryz.underlying5 ts6 tb6 zl6 za6 Tryz.underlying6 ts7 tb7 za7 Tryz.underlying7 ts8 tb8 za8 Tryz.underlying8 ts9 tb9 zl9 za9 Tryz.underlying9 ts10 tb10 zl10 za10 Tryz.underlying10 ts11 tb11 zl11 za11 Tryz.underlying11 ts12 tb12 zl12 za12 Tryz.underlying12 ts13 tb13 za13 Tryz.underlying13 ts14 tb14 za14 Tryz.underlying14 ts18 tb18 za18 Tryz.underlying18 ts19 tb19 za19 Tryz.underlying19 ts21 tb21 zl21 za21 Tryz.underlying21 ts22 tb22 zl22 za22 Tryz.underlying22 ts24 tb24 za24 Tryz.underlying24 ts25 tb25 za25 Tryz.underlying25 ts26 tb26 zl26 za26 Tryz.underlying26 ts27 tb27 za27 Tryz.underlying27 ts28 tb28 za28 Tryz.underlying28 ts30 tb30 zl30 za30 Tryz.underlying30 ts31 tb31 zl31 za31 Tryz.underlying31 ts34 tb34 zl34 za34 Tryz.underlying34 ts35 tb35 zl35 za35 Tryz.underlying35 ts36 tb36 za36 Tryz.underlying36 ts37 tb37 za37 Tryz.underlying37 ts46 tb46 za46 Tryz.underlying46 ts47 tb47 za47 Tryz.underlying47 ts61 tb61 zl61 za61 Tryz.underlying61 ts62 tb62 za62 Tryz.underlying62 ts63 tb63 za63 Tryz.underlying63 ts66 tb66 zl66 za66 Tryz.underlying66 ts68 tb68 zl68 za68 Tryz.underlying68 ts74 tb74 za74 Tryz.underlying74 ts75 tb75 za75 Tryz.underlying75 ts77 tb77 zl77 za77 Tryz.underlying77 ts81 tb81 zl81 za81 Tryz.underlying81 ts82 tb82 za82 Tryz.underlying82 ts83 tb83 za83 Tryz.underlying83 ts86 tb86 zl86 za86 Tryz.underlying86 ts102 tb102 za102 Tryz.underlying102 ts103 tb103 za103 Tryz.underlying103 ts106 tb106 za106 Tryz.underlying106 ts107 tb107 za107 Tryz.underlying107 ts114 tb114 zl114 za114 Tryz.underlying114 ts117 tb117 zl117 za117 Tryz.underlying117 ts120 tb120 zl120 za120 Tryz.underlying120 ts133 tb133 zl133 za133 Tryz.underlying133 ts144 tb144 zl144 za144 Tryz.underlying144 ts151 tb151 zl151 za151 Tryz.underlying151 ts156 tb156 zl156 za156 Tryz.underlying156 ts160 tb160 Tryz.underlying160 ts169 tb169 za169 Tryz.underlying169 ts170 tb170 za170 Tryz.underlying170 ts175 tb175 Tryz.underlying175 ts180 tb180 za180 Tryz.underlying180 ts181 tb181 za181 Tryz.underlying181 ts185 tb185 za185 Tryz.underlying185 ts186 tb186 za186 Tryz.underlying186 ts187 tb187 Tryz.underlying187 ts189 tb189 Tryz.underlying189 ts190 tb190 Tryz.underlying190 ts191 tb191 za191 Tryz.underlying191 ts192 tb192 za192 Tryz.underlying192 ts196 tb196 zl196 za196 Tryz.underlying196 ts197 tb197 zl197 za197 Tryz.underlying197 ts199 tb199 zl199 za199 Tryz.underlying199 ts200 tb200 zl200 za200 Tryz.underlying200 ts201 tb201 za201 Tryz.underlying201 ts202 tb202 za202 Tryz.underlying202

def blkS (L : List Int) (k : Int) : Blk := .arr 2 [str L k]
def blkZ : Blk := .arr 2 [.agg [.str [], .raw (.slice none 0 0)]]

set_option maxHeartbeats 2000000 in
theorem numbered_cth {S : Std} (hS : LibOk S) (L : List Int) (k : Int) (ti : List UInt8) (x : Sc) (xs : List Sc) (hl : xs.length ≤ 1000) :
    CtH Tryz.prog S 21 [srA ⟨ti, x :: xs⟩] [blkS L k, blkZ] (fun r s => r = .agg [.str ti, .sl 4 0 (xs.length + 1) (xs.length + 1)] ∧
      s = [blkS L k, blkZ, .arr 2 [srA ⟨ti, x :: xs⟩], .arr 2 [.agg [.str ti, .sl 4 0 (xs.length + 1) (xs.length + 1)]], .arr 5 ((numL 0 (x :: xs)).map scA), .arr 2 [.agg [.str ti, .sl 4 0 (xs.length + 1) (xs.length + 1)]]]) := by
  simp only [srA]
  refine cth_intro Tryz.func21 rfl Tryz.ntmps21 hB21 (by simp) fun h ρ w hg => go (N := 27) Tryz.ntmps21 300 ?_
  simp only [go_sem, Nat.reduceAdd, Nat.reduceMul, Nat.reduceSub, Nat.reduceBEq, Nat.reduceLT, Nat.reduceLeDiff, reduceIte, reduceCtorEq, Int.reduceToNat, Int.reduceLE, Int.reduceLT, Int.reduceNe, Int.reduceMul, Int.reduceAdd, Int.reduceSub, Int.reduceDiv, Int.reduceMod, Int.reduceEq, Int.reduceGE, Int.reduceGT, Int.reduceNeg, Int.reduceBEq, Int.reduceBNe, Nat.reduceEqDiff]
  refine AWp.shift (Shift.reserve 5) ?_
  refine adrawI [4] 4 [] mixed (by decide) (N := 27) Tryz.ntmps21 (by decide) 100 ?_
  simp only [go_sem, Nat.reduceAdd, Nat.reduceMul, Nat.reduceSub, Nat.reduceBEq, Nat.reduceLT, Nat.reduceLeDiff, reduceIte, reduceCtorEq, Int.reduceToNat, Int.reduceLE, Int.reduceLT, Int.reduceNe, Int.reduceMul, Int.reduceAdd, Int.reduceSub, Int.reduceDiv, Int.reduceMod, Int.reduceEq, Int.reduceGE, Int.reduceGT, Int.reduceNeg, Int.reduceBEq, Int.reduceBNe, Nat.reduceEqDiff]
  have hfro : (flat ((x :: xs).map scA)).all Av.frozen = true := frozen_scenes (x :: xs)
  refine icall_new (clone_ct x xs (by omega)) (by simp) (by simp) rfl hfro rfl ?_
  simp only [go_sem, Nat.reduceAdd, Nat.reduceMul, Nat.reduceSub, Nat.reduceBEq, Nat.reduceLT, Nat.reduceLeDiff, reduceIte, reduceCtorEq, Int.reduceToNat, Int.reduceLE, Int.reduceLT, Int.reduceNe, Int.reduceMul, Int.reduceAdd, Int.reduceSub, Int.reduceDiv, Int.reduceMod, Int.reduceEq, Int.reduceGE, Int.reduceGT, Int.reduceNeg, Int.reduceBEq, Int.reduceBNe, Nat.reduceEqDiff]
  refine go (N := 27) Tryz.ntmps21 300 ?_
  simp only [go_sem, Nat.reduceAdd, Nat.reduceMul, Nat.reduceSub, Nat.reduceBEq, Nat.reduceLT, Nat.reduceLeDiff, reduceIte, reduceCtorEq, Int.reduceToNat, Int.reduceLE, Int.reduceLT, Int.reduceNe, Int.reduceMul, Int.reduceAdd, Int.reduceSub, Int.reduceDiv, Int.reduceMod, Int.reduceEq, Int.reduceGE, Int.reduceGT, Int.reduceNeg, Int.reduceBEq, Int.reduceBNe, Nat.reduceEqDiff]
  refine ⟨by simp, ?_⟩
  have hnum : ∃ out, numL 0 (x :: xs) = out := ⟨_, rfl⟩
  obtain ⟨out, hout⟩ := hnum
  rw [hout]
  refine aloop (ι := List Sc × List Sc) (fun y => y.2.length)
    (fun y => [(14, .int .i64 y.1.length), (13, .int .i64 ↑(xs.length + 1)), (3, .ptr 5 1 0 0), (2, .ptr 3 1 0 0)])
    (fun y => [blkS L k, blkZ, .arr 2 [.agg [.str ti, .fz 5 (scA x :: List.map scA xs)]], .arr 2 [.agg [.str [], .raw (.slice none 0 0)]], .arr 5 (List.map scA (y.1 ++ y.2)), .arr 2 [.agg [.str ti, .sl 4 0 (xs.length + 1) (xs.length + 1)]]])
    (fun y => y.1.length + y.2.length = xs.length + 1 ∧ y.1 ++ numL y.1.length y.2 = out) ([], x :: xs) ⟨by simp, hout⟩ ?_ ?_
  · refine Shift.weak ?_
    simp only [wk, go_sem, Nat.reduceAdd, Nat.reduceMul, Nat.reduceSub, Nat.reduceBEq, Nat.reduceLT, Nat.reduceLeDiff, reduceIte, reduceCtorEq, Int.reduceToNat, Int.reduceLE, Int.reduceLT, Int.reduceNe, Int.reduceMul, Int.reduceAdd, Int.reduceSub, Int.reduceDiv, Int.reduceMod, Int.reduceEq, Int.reduceGE, Int.reduceGT, Int.reduceNeg, Int.reduceBEq, Int.reduceBNe, Nat.reduceEqDiff]
  · rintro ⟨dn, rest⟩ ⟨g1, g2⟩ J hJ
    simp only at g1 g2 hJ ⊢
    cases rest with
    | cons y r =>
      have di : decide ((dn.length : Int) < ((xs.length + 1 : Nat) : Int)) = true := by simp at g1 ⊢; omega
      refine go (N := 27) Tryz.ntmps21 300 ?_
      simp only [go_sem, Nat.reduceAdd, Nat.reduceMul, Nat.reduceSub, Nat.reduceBEq, Nat.reduceLT, Nat.reduceLeDiff, reduceIte, reduceCtorEq, Int.reduceToNat, Int.reduceLE, Int.reduceLT, Int.reduceNe, Int.reduceMul, Int.reduceAdd, Int.reduceSub, Int.reduceDiv, Int.reduceMod, Int.reduceEq, Int.reduceGE, Int.reduceGT, Int.reduceNeg, Int.reduceBEq, Int.reduceBNe, Nat.reduceEqDiff, di]
      refine adraw [.str (Lib.itoa ((dn.length : Int) + 1))] mixed (by decide) (N := 27) Tryz.ntmps21 (by decide) 100 ?_
      have hx : List.getD (List.map scA (dn ++ y :: r)) dn.length .any = .agg [.str y.no, .int .i64 y.place, .str y.set, .int .i64 y.time, .fz 2 (y.paras.map paA)] := by simp [List.getD, scA]
      simp only [go_sem, Nat.reduceAdd, Nat.reduceMul, Nat.reduceSub, Nat.reduceBEq, Nat.reduceLT, Nat.reduceLeDiff, reduceIte, reduceCtorEq, Int.reduceToNat, Int.reduceLE, Int.reduceLT, Int.reduceNe, Int.reduceMul, Int.reduceAdd, Int.reduceSub, Int.reduceDiv, Int.reduceMod, Int.reduceEq, Int.reduceGE, Int.reduceGT, Int.reduceNeg, Int.reduceBEq, Int.reduceBNe, Nat.reduceEqDiff, hx]
      refine ⟨by omega, by omega, (itoa_pch hS _ (by omega) (by omega)).at hg, rfl, by simp at g1 ⊢; omega, by omega, by simp at g1 ⊢; omega, by omega, by simp, ?_⟩
      have hset : (List.map scA (dn ++ y :: r)).set dn.length (.agg [.str (Lib.itoa ((dn.length : Int) + 1)), .int .i64 y.place, .str y.set, .int .i64 y.time, .fz 2 (y.paras.map paA)]) = List.map scA ((dn ++ [nm dn.length y]) ++ r) := by
        simp [nm, scA]
      rw [hset]
      refine go (N := 27) Tryz.ntmps21 300 ?_
      simp only [go_sem, Nat.reduceAdd, Nat.reduceMul, Nat.reduceSub, Nat.reduceBEq, Nat.reduceLT, Nat.reduceLeDiff, reduceIte, reduceCtorEq, Int.reduceToNat, Int.reduceLE, Int.reduceLT, Int.reduceNe, Int.reduceMul, Int.reduceAdd, Int.reduceSub, Int.reduceDiv, Int.reduceMod, Int.reduceEq, Int.reduceGE, Int.reduceGT, Int.reduceNeg, Int.reduceBEq, Int.reduceBNe, Nat.reduceEqDiff]
      refine ⟨by omega, by omega, ?_⟩
      rw [show (dn.length : Int) + 1 = ((dn ++ [nm dn.length y]).length : Int) by simp]
      refine ainv (hJ (dn ++ [nm dn.length y], r) ⟨by simp at g1 ⊢; omega, by rw [← g2]; simp [numL]⟩ (by simp)) (Shift.weak ?_)
      simp only [wk, go_sem, Nat.reduceAdd, Nat.reduceMul, Nat.reduceSub, Nat.reduceBEq, Nat.reduceLT, Nat.reduceLeDiff, reduceIte, reduceCtorEq, Int.reduceToNat, Int.reduceLE, Int.reduceLT, Int.reduceNe, Int.reduceMul, Int.reduceAdd, Int.reduceSub, Int.reduceDiv, Int.reduceMod, Int.reduceEq, Int.reduceGE, Int.reduceGT, Int.reduceNeg, Int.reduceBEq, Int.reduceBNe, Nat.reduceEqDiff]
    | nil =>
      simp only [List.append_nil, numL] at g2 ⊢
      subst g2
      have hn : dn.length = xs.length + 1 := by simpa using g1
      have di : decide ((dn.length : Int) < ((xs.length + 1 : Nat) : Int)) = false := by simp; omega
      refine go (N := 27) Tryz.ntmps21 300 ?_
      simp only [go_sem, Nat.reduceAdd, Nat.reduceMul, Nat.reduceSub, Nat.reduceBEq, Nat.reduceLT, Nat.reduceLeDiff, reduceIte, reduceCtorEq, Int.reduceToNat, Int.reduceLE, Int.reduceLT, Int.reduceNe, Int.reduceMul, Int.reduceAdd, Int.reduceSub, Int.reduceDiv, Int.reduceMod, Int.reduceEq, Int.reduceGE, Int.reduceGT, Int.reduceNeg, Int.reduceBEq, Int.reduceBNe, Nat.reduceEqDiff, di]
      exact aretc [.cell 2 28] rfl [_] ⟨by simp only [go_sem, Nat.reduceAdd, Nat.reduceMul, Nat.reduceSub, Nat.reduceBEq, Nat.reduceLT, Nat.reduceLeDiff, reduceIte, reduceCtorEq, Int.reduceToNat, Int.reduceLE, Int.reduceLT, Int.reduceNe, Int.reduceMul, Int.reduceAdd, Int.reduceSub, Int.reduceDiv, Int.reduceMod, Int.reduceEq, Int.reduceGE, Int.reduceGT, Int.reduceNeg, Int.reduceBEq, Int.reduceBNe, Nat.reduceEqDiff, sideIs], trivial⟩ ⟨rfl, rfl⟩

/-- the numbers of a story are those from 1 on -/
theorem num_last (i : Nat) (hi : i < 5) : Lib.itoa ((i : Int) + 1) = lastL (i + 1) := by
  rw [itoa_dig3 (by omega) (by omega)]
  exact (last_facts i hi).2.2.2.2.2.2.2.2.symm
theorem numL_len : ∀ (i : Nat) (xs : List Sc), (numL i xs).length = xs.length
  | _, [] => rfl
  | i, x :: r => by simp [numL, numL_len (i + 1) r]
theorem numL_get : ∀ (xs : List Sc) (i j : Nat) (h : j < xs.length), (numL i xs)[j]? = some (nm (i + j) xs[j])
  | [], i, j, h => by simp at h
  | x :: r, i, 0, h => by simp [numL]
  | x :: r, i, j + 1, h => by
    simp only [numL, List.getElem?_cons_succ, List.getElem_cons_succ]
    rw [numL_get r (i + 1) j (by simpa using h)]
    congr 2
    omega

theorem set_same {α : Type} {l : List α} {i : Nat} {a : α} (h : l[i]? = some a) : l.set i a = l := by
  apply List.ext_getElem?
  intro j
  rw [List.getElem?_set]
  split
  · rename_i hj
    subst hj
    split
    · exact h.symm
    · rename_i hn
      rw [List.getElem?_eq_none (by omega)] at h
      cases h
  · rfl

set_option maxHeartbeats 2000000 in
theorem story_mch {S : Std} (hS : LibOk S) (L : List Int) (k : Int) (h3 : 0 ≤ k) (h4 : k ≤ 500000) :
    McH Tryz.prog S 11 2 (str L k) [] (fun r s => ∃ (x : Sr) (k' : Int), r = srA (numR x) ∧ DrawnR x ∧ s = str L k' ∧ k ≤ k' ∧ k' ≤ k + 40000) := by
  refine cth_intro Tryz.func11 rfl Tryz.ntmps11 hB11 (by simp) fun h ρ w hg => goF (N := 37) Tryz.ntmps11 300 ?_
  simp only [go_sem, Nat.reduceAdd, Nat.reduceMul, Nat.reduceSub, Nat.reduceBEq, Nat.reduceLT, Nat.reduceLeDiff, reduceIte, reduceCtorEq, Int.reduceToNat, Int.reduceLE, Int.reduceLT, Int.reduceNe, Int.reduceMul, Int.reduceAdd, Int.reduceSub, Int.reduceDiv, Int.reduceMod, Int.reduceEq, Int.reduceGE, Int.reduceGT, Int.reduceNeg, Int.reduceBEq, Int.reduceBNe, Nat.reduceEqDiff]
  refine mcall (script_mc L k (by omega) (by omega)) rfl rfl (id := 0) rfl (N := 37) Tryz.ntmps11 rfl ?_
  rintro _ _ ⟨⟨ti, xs⟩, k', rfl, hx, rfl, t1, t2⟩
  have hlen : xs.length ≤ 5 := hx.len
  cases xs with
  | nil =>
    refine goF (N := 37) Tryz.ntmps11 300 ?_
    simp only [go_sem, Nat.reduceAdd, Nat.reduceMul, Nat.reduceSub, Nat.reduceBEq, Nat.reduceLT, Nat.reduceLeDiff, reduceIte, reduceCtorEq, Int.reduceToNat, Int.reduceLE, Int.reduceLT, Int.reduceNe, Int.reduceMul, Int.reduceAdd, Int.reduceSub, Int.reduceDiv, Int.reduceMod, Int.reduceEq, Int.reduceGE, Int.reduceGT, Int.reduceNeg, Int.reduceBEq, Int.reduceBNe, Nat.reduceEqDiff]
    refine pcallH1 hg (numbered_pch hS ⟨ti, []⟩ (by simp)) rfl (N := 37) Tryz.ntmps11 rfl (go (N := 37) Tryz.ntmps11 300 ?_)
    have e0 : srA (numR ⟨ti, []⟩) = .agg [.str ti, .fz 5 []] := rfl
    rw [e0]
    simp only [go_sem, Nat.reduceAdd, Nat.reduceMul, Nat.reduceSub, Nat.reduceBEq, Nat.reduceLT, Nat.reduceLeDiff, reduceIte, reduceCtorEq, Int.reduceToNat, Int.reduceLE, Int.reduceLT, Int.reduceNe, Int.reduceMul, Int.reduceAdd, Int.reduceSub, Int.reduceDiv, Int.reduceMod, Int.reduceEq, Int.reduceGE, Int.reduceGT, Int.reduceNeg, Int.reduceBEq, Int.reduceBNe, Nat.reduceEqDiff]
    refine mcall (flip_mc L k' 3 (by omega) (by omega) (by omega) (by omega)) rfl rfl (id := 0) rfl (N := 37) Tryz.ntmps11 rfl ?_
    rintro _ _ ⟨⟨b, rfl⟩, rfl⟩
    cases b with
    | true =>
      refine goF (N := 37) Tryz.ntmps11 300 ?_
      simp only [go_sem, Nat.reduceAdd, Nat.reduceMul, Nat.reduceSub, Nat.reduceBEq, Nat.reduceLT, Nat.reduceLeDiff, reduceIte, reduceCtorEq, Int.reduceToNat, Int.reduceLE, Int.reduceLT, Int.reduceNe, Int.reduceMul, Int.reduceAdd, Int.reduceSub, Int.reduceDiv, Int.reduceMod, Int.reduceEq, Int.reduceGE, Int.reduceGT, Int.reduceNeg, Int.reduceBEq, Int.reduceBNe, Nat.reduceEqDiff]
      refine aenter (around (go (N := 37) Tryz.ntmps11 300 ?_))
      simp only [go_sem, Nat.reduceAdd, Nat.reduceMul, Nat.reduceSub, Nat.reduceBEq, Nat.reduceLT, Nat.reduceLeDiff, reduceIte, reduceCtorEq, Int.reduceToNat, Int.reduceLE, Int.reduceLT, Int.reduceNe, Int.reduceMul, Int.reduceAdd, Int.reduceSub, Int.reduceDiv, Int.reduceMod, Int.reduceEq, Int.reduceGE, Int.reduceGT, Int.reduceNeg, Int.reduceBEq, Int.reduceBNe, Nat.reduceEqDiff]
      exact aretc [.cell 2 28] rfl [_] ⟨by simp only [go_sem, Nat.reduceAdd, Nat.reduceMul, Nat.reduceSub, Nat.reduceBEq, Nat.reduceLT, Nat.reduceLeDiff, reduceIte, reduceCtorEq, Int.reduceToNat, Int.reduceLE, Int.reduceLT, Int.reduceNe, Int.reduceMul, Int.reduceAdd, Int.reduceSub, Int.reduceDiv, Int.reduceMod, Int.reduceEq, Int.reduceGE, Int.reduceGT, Int.reduceNeg, Int.reduceBEq, Int.reduceBNe, Nat.reduceEqDiff, sideIs, numR, numL], trivial⟩ ⟨_, _, rfl, ⟨⟨ti, []⟩, k' + 1, rfl, hx, rfl, by omega, by omega⟩, rfl, rfl⟩
    | false =>
      refine goF (N := 37) Tryz.ntmps11 300 ?_
      simp only [go_sem, Nat.reduceAdd, Nat.reduceMul, Nat.reduceSub, Nat.reduceBEq, Nat.reduceLT, Nat.reduceLeDiff, reduceIte, reduceCtorEq, Int.reduceToNat, Int.reduceLE, Int.reduceLT, Int.reduceNe, Int.reduceMul, Int.reduceAdd, Int.reduceSub, Int.reduceDiv, Int.reduceMod, Int.reduceEq, Int.reduceGE, Int.reduceGT, Int.reduceNeg, Int.reduceBEq, Int.reduceBNe, Nat.reduceEqDiff]
      exact aretc [.cell 2 28] rfl [_] ⟨by simp only [go_sem, Nat.reduceAdd, Nat.reduceMul, Nat.reduceSub, Nat.reduceBEq, Nat.reduceLT, Nat.reduceLeDiff, reduceIte, reduceCtorEq, Int.reduceToNat, Int.reduceLE, Int.reduceLT, Int.reduceNe, Int.reduceMul, Int.reduceAdd, Int.reduceSub, Int.reduceDiv, Int.reduceMod, Int.reduceEq, Int.reduceGE, Int.reduceGT, Int.reduceNeg, Int.reduceBEq, Int.reduceBNe, Nat.reduceEqDiff, sideIs, numR, numL], trivial⟩ ⟨_, _, rfl, ⟨⟨ti, []⟩, k' + 1, rfl, hx, rfl, by omega, by omega⟩, rfl, rfl⟩
  | cons x xs =>
    refine goF (N := 37) Tryz.ntmps11 300 ?_
    simp only [go_sem, Nat.reduceAdd, Nat.reduceMul, Nat.reduceSub, Nat.reduceBEq, Nat.reduceLT, Nat.reduceLeDiff, reduceIte, reduceCtorEq, Int.reduceToNat, Int.reduceLE, Int.reduceLT, Int.reduceNe, Int.reduceMul, Int.reduceAdd, Int.reduceSub, Int.reduceDiv, Int.reduceMod, Int.reduceEq, Int.reduceGE, Int.reduceGT, Int.reduceNeg, Int.reduceBEq, Int.reduceBNe, Nat.reduceEqDiff]
    refine acallH hg (numbered_cth hS L k' ti x xs (by simp at hlen; omega)) (N := 37) Tryz.ntmps11 rfl ?_
    rintro _ _ ⟨rfl, rfl⟩
    refine goF (N := 37) Tryz.ntmps11 300 ?_
    simp only [go_sem, Nat.reduceAdd, Nat.reduceMul, Nat.reduceSub, Nat.reduceBEq, Nat.reduceLT, Nat.reduceLeDiff, reduceIte, reduceCtorEq, Int.reduceToNat, Int.reduceLE, Int.reduceLT, Int.reduceNe, Int.reduceMul, Int.reduceAdd, Int.reduceSub, Int.reduceDiv, Int.reduceMod, Int.reduceEq, Int.reduceGE, Int.reduceGT, Int.reduceNeg, Int.reduceBEq, Int.reduceBNe, Nat.reduceEqDiff, blkS, blkZ]
    refine mcall (flip_mc L k' 3 (by omega) (by omega) (by omega) (by omega)) rfl rfl (id := 0) rfl (N := 37) Tryz.ntmps11 rfl ?_
    rintro _ _ ⟨⟨b, rfl⟩, rfl⟩
    have htake : List.take (xs.length + 1) (List.map scA (numL 0 (x :: xs))) = List.map scA (numL 0 (x :: xs)) := List.take_of_length_le (by simp [numL_len])
    have hl5 : xs.length + 1 ≤ 5 := by simpa using hlen
    cases b with
    | false =>
      refine AWp.shift (Shift.frz 4 rfl (frozen_scenes _)) ?_
      simp only [Go.Av.put, srA, ↓frz_str, frzE, frz, frz1, frzB, List.map_cons, List.map_nil, List.set_cons_succ, List.set_cons_zero, Nat.reduceBEq, cond_true, cond_false, Bool.false_and, Bool.true_and, List.length_map, Nat.zero_add, numL_len, List.length_cons, decide_true, Nat.le_refl, List.drop_zero]
      simp only [htake]
      refine goF (N := 37) Tryz.ntmps11 300 ?_
      simp only [go_sem, Nat.reduceAdd, Nat.reduceMul, Nat.reduceSub, Nat.reduceBEq, Nat.reduceLT, Nat.reduceLeDiff, reduceIte, reduceCtorEq, Int.reduceToNat, Int.reduceLE, Int.reduceLT, Int.reduceNe, Int.reduceMul, Int.reduceAdd, Int.reduceSub, Int.reduceDiv, Int.reduceMod, Int.reduceEq, Int.reduceGE, Int.reduceGT, Int.reduceNeg, Int.reduceBEq, Int.reduceBNe, Nat.reduceEqDiff]
      exact aretc [.cell 2 28] rfl [_] ⟨by simp only [go_sem, Nat.reduceAdd, Nat.reduceMul, Nat.reduceSub, Nat.reduceBEq, Nat.reduceLT, Nat.reduceLeDiff, reduceIte, reduceCtorEq, Int.reduceToNat, Int.reduceLE, Int.reduceLT, Int.reduceNe, Int.reduceMul, Int.reduceAdd, Int.reduceSub, Int.reduceDiv, Int.reduceMod, Int.reduceEq, Int.reduceGE, Int.reduceGT, Int.reduceNeg, Int.reduceBEq, Int.reduceBNe, Nat.reduceEqDiff, sideIs, numR], trivial⟩ ⟨_, _, rfl, ⟨⟨ti, x :: xs⟩, k' + 1, rfl, hx, rfl, by omega, by omega⟩, rfl, rfl⟩
    | true =>
      refine goF (N := 37) Tryz.ntmps11 300 ?_
      simp only [go_sem, Nat.reduceAdd, Nat.reduceMul, Nat.reduceSub, Nat.reduceBEq, Nat.reduceLT, Nat.reduceLeDiff, reduceIte, reduceCtorEq, Int.reduceToNat, Int.reduceLE, Int.reduceLT, Int.reduceNe, Int.reduceMul, Int.reduceAdd, Int.reduceSub, Int.reduceDiv, Int.reduceMod, Int.reduceEq, Int.reduceGE, Int.reduceGT, Int.reduceNeg, Int.reduceBEq, Int.reduceBNe, Nat.reduceEqDiff]
      refine ⟨by simp [numL_len], ?_⟩
      refine aloop (ι := Nat × Int) (fun y => 5 - y.1)
        (fun y => [(14, .int .i64 y.1), (13, .int .i64 ↑(xs.length + 1)), (4, .str (lastL y.1)), (3, .ptr 6 1 0 0), (2, .ptr 1 1 0 0), (0, .ptr 0 1 0 0)])
        (fun y => [.arr 2 [str L y.2], .arr 2 [.agg [.str [], .raw (.slice none 0 0)]], .arr 2 [srA ⟨ti, x :: xs⟩], .arr 2 [.agg [.str ti, .sl 4 0 (xs.length + 1) (xs.length + 1)]], .arr 5 (List.map scA (numL 0 (x :: xs))), .arr 2 [.agg [.str ti, .sl 4 0 (xs.length + 1) (xs.length + 1)]], .arr 2 [.agg [.str ti, .sl 4 0 (xs.length + 1) (xs.length + 1)]]])
        (fun y => y.1 ≤ xs.length + 1 ∧ k ≤ y.2 ∧ y.2 ≤ k + 30001 + y.1) (0, k' + 1) ⟨by simp, by simp only; omega, by simp only; omega⟩ ?_ ?_
      · refine Shift.weak ?_
        simp only [wk, go_sem, Nat.reduceAdd, Nat.reduceMul, Nat.reduceSub, Nat.reduceBEq, Nat.reduceLT, Nat.reduceLeDiff, reduceIte, reduceCtorEq, Int.reduceToNat, Int.reduceLE, Int.reduceLT, Int.reduceNe, Int.reduceMul, Int.reduceAdd, Int.reduceSub, Int.reduceDiv, Int.reduceMod, Int.reduceEq, Int.reduceGE, Int.reduceGT, Int.reduceNeg, Int.reduceBEq, Int.reduceBNe, Nat.reduceEqDiff, lastL]
      · rintro ⟨i, k2⟩ ⟨g1, g2, g3⟩ J hJ
        simp only at g1 g2 g3 hJ ⊢
        by_cases gi : i < xs.length + 1
        · have di : decide ((i : Int) < ((xs.length + 1 : Nat) : Int)) = true := by simp; omega
          have hlast : (lastL (i + 1) == []) = false := by
            have := last_facts i (by omega)
            rw [this.2.2.2.2.2.2.2.2]; exact this.2.2.2.2.2.2.2.1
          refine goF (N := 37) Tryz.ntmps11 300 ?_
          simp only [go_sem, Nat.reduceAdd, Nat.reduceMul, Nat.reduceSub, Nat.reduceBEq, Nat.reduceLT, Nat.reduceLeDiff, reduceIte, reduceCtorEq, Int.reduceToNat, Int.reduceLE, Int.reduceLT, Int.reduceNe, Int.reduceMul, Int.reduceAdd, Int.reduceSub, Int.reduceDiv, Int.reduceMod, Int.reduceEq, Int.reduceGE, Int.reduceGT, Int.reduceNeg, Int.reduceBEq, Int.reduceBNe, Nat.reduceEqDiff, di]
          refine mcall (one_mc L k2 [[], [], [57]] (by decide) (by decide) (by omega) (by omega)) rfl rfl (id := 0) rfl (N := 37) Tryz.ntmps11 rfl ?_
          rintro _ _ ⟨⟨z, hz, rfl⟩, rfl⟩
          have hzz : z = [] ∨ z = [57] := by simpa using hz
          refine goF (N := 37) Tryz.ntmps11 300 ?_
          simp only [go_sem, Nat.reduceAdd, Nat.reduceMul, Nat.reduceSub, Nat.reduceBEq, Nat.reduceLT, Nat.reduceLeDiff, reduceIte, reduceCtorEq, Int.reduceToNat, Int.reduceLE, Int.reduceLT, Int.reduceNe, Int.reduceMul, Int.reduceAdd, Int.reduceSub, Int.reduceDiv, Int.reduceMod, Int.reduceEq, Int.reduceGE, Int.reduceGT, Int.reduceNeg, Int.reduceBEq, Int.reduceBNe, Nat.reduceEqDiff]
          refine pcallH1 hg (betweenOf_pch hS i (by omega) z hzz) rfl (N := 37) Tryz.ntmps11 rfl (goF (N := 37) Tryz.ntmps11 300 ?_)
          have hi : i < (x :: xs).length := by simpa using gi
          have hget : (List.map scA (numL 0 (x :: xs)))[i]? = some (.agg [.str (lastL (i + 1)), .int .i64 (x :: xs)[i].place, .str (x :: xs)[i].set, .int .i64 (x :: xs)[i].time, .fz 2 ((x :: xs)[i].paras.map paA)]) := by
            rw [List.getElem?_map, numL_get _ _ _ hi]
            simp only [Option.map_some, nm, scA, Nat.zero_add, num_last i (by omega)]
          have hgd : List.getD (List.map scA (numL 0 (x :: xs))) i .any = .agg [.str (lastL (i + 1)), .int .i64 (x :: xs)[i].place, .str (x :: xs)[i].set, .int .i64 (x :: xs)[i].time, .fz 2 ((x :: xs)[i].paras.map paA)] := by
            rw [List.getD_eq_getElem?_getD, hget]; rfl
          simp only [go_sem, Nat.reduceAdd, Nat.reduceMul, Nat.reduceSub, Nat.reduceBEq, Nat.reduceLT, Nat.reduceLeDiff, reduceIte, reduceCtorEq, Int.reduceToNat, Int.reduceLE, Int.reduceLT, Int.reduceNe, Int.reduceMul, Int.reduceAdd, Int.reduceSub, Int.reduceDiv, Int.reduceMod, Int.reduceEq, Int.reduceGE, Int.reduceGT, Int.reduceNeg, Int.reduceBEq, Int.reduceBNe, Nat.reduceEqDiff, hlast, hgd]
          have hset := set_same hget
          refine ⟨by simp [numL_len], by omega, by omega, Nat.le_refl _, by simp [numL_len]; omega, by omega, by omega, ?_⟩
          rw [hset, show (i : Int) + 1 = ((i + 1 : Nat) : Int) by omega]
          refine ainv (hJ (i + 1, k2 + 1) ⟨by simp only; omega, by simp only; omega, by simp only; omega⟩ (by simp only; omega)) (Shift.weak ?_)
          simp only [wk, go_sem, Nat.reduceAdd, Nat.reduceMul, Nat.reduceSub, Nat.reduceBEq, Nat.reduceLT, Nat.reduceLeDiff, reduceIte, reduceCtorEq, Int.reduceToNat, Int.reduceLE, Int.reduceLT, Int.reduceNe, Int.reduceMul, Int.reduceAdd, Int.reduceSub, Int.reduceDiv, Int.reduceMod, Int.reduceEq, Int.reduceGE, Int.reduceGT, Int.reduceNeg, Int.reduceBEq, Int.reduceBNe, Nat.reduceEqDiff]
        · have di : decide ((i : Int) < ((xs.length + 1 : Nat) : Int)) = false := by simp; omega
          refine AWp.shift (Shift.frz 4 rfl (frozen_scenes _)) ?_
          simp only [Go.Av.put, srA, ↓frz_str, frzE, frz, frz1, frzB, List.map_cons, List.map_nil, List.set_cons_succ, List.set_cons_zero, Nat.reduceBEq, cond_true, cond_false, Bool.false_and, Bool.true_and, List.length_map, Nat.zero_add, numL_len, List.length_cons, decide_true, Nat.le_refl, List.drop_zero]
          simp only [htake]
          refine goF (N := 37) Tryz.ntmps11 300 ?_
          simp only [go_sem, Nat.reduceAdd, Nat.reduceMul, Nat.reduceSub, Nat.reduceBEq, Nat.reduceLT, Nat.reduceLeDiff, reduceIte, reduceCtorEq, Int.reduceToNat, Int.reduceLE, Int.reduceLT, Int.reduceNe, Int.reduceMul, Int.reduceAdd, Int.reduceSub, Int.reduceDiv, Int.reduceMod, Int.reduceEq, Int.reduceGE, Int.reduceGT, Int.reduceNeg, Int.reduceBEq, Int.reduceBNe, Nat.reduceEqDiff, di]
          exact aretc [.cell 2 28] rfl [_] ⟨by simp only [go_sem, Nat.reduceAdd, Nat.reduceMul, Nat.reduceSub, Nat.reduceBEq, Nat.reduceLT, Nat.reduceLeDiff, reduceIte, reduceCtorEq, Int.reduceToNat, Int.reduceLE, Int.reduceLT, Int.reduceNe, Int.reduceMul, Int.reduceAdd, Int.reduceSub, Int.reduceDiv, Int.reduceMod, Int.reduceEq, Int.reduceGE, Int.reduceGT, Int.reduceNeg, Int.reduceBEq, Int.reduceBNe, Nat.reduceEqDiff, sideIs, numR], trivial⟩ ⟨_, _, rfl, ⟨⟨ti, x :: xs⟩, k2, rfl, hx, rfl, by omega, by omega⟩, rfl, rfl⟩
end Go.Proofs.YtikbgjhajgjjdaaGreatDoor
