/- The pairs of two lists in whatever order. Own work of this seat. -/
import Derived.Test.YtpjbbpilgfihbaaDoorSf
namespace Go.Proofs.YtpjbbpilgfihbaaDoor
open Go Go.Av Go.RowKit
attribute [local go_sem ↓] br_true br_false dbr_true dbr_false
attribute [local go_sem] run cont br dbr dx dxc dgrd dyld dres dcall calm fieldPlace? allHas step1 opN grdN resN condN exitN stopN exitIt dOk xop xbin xint xarith xstr xbool xpick xnot xneg xextract xpart xpartOk xindex xfieldF fieldD xnew xbox xalloc xfieldAddr xptrAddIf xindexAddr xloadC xload putCells reElem xstoreB xstore xconv xtext xlen xlen2 xcall xfill xbuild cut rep xbuildSlice xbuildSliceD isRow elemD isU8 ev evs evp Go.Av.put Go.Av.get ofConst yldD yldV args0 cellsOf cond_true cond_false decide_true decide_false decide_eq_true_eq decide_eq_false_iff_not List.getElem?_cons_zero List.getElem?_cons_succ List.getElem?_nil List.getD_cons_zero List.getD_cons_succ List.getD_nil List.set_cons_zero List.set_cons_succ List.length_cons List.length_nil List.cons_append List.nil_append List.append_nil List.all_cons List.all_nil List.map_cons List.map_nil List.take_succ_cons List.take_zero List.drop_succ_cons List.drop_zero Bool.and_true Bool.true_and Bool.and_self Bool.and_false Bool.false_and one Go.Av.frozen beq_self_eq_true true_and and_true forall_const false_implies implies_true and_self Option.map_some Option.map_none Nat.zero_add Nat.add_zero Nat.zero_mul Nat.mul_one Nat.one_mul Int.toNat_zero ne_eq not_false_eq_true not_true_eq_false Bool.true_eq_false Bool.false_eq_true List.toList_toArray inr Go.Av.byteOf isByte decide_eq_decide Bool.not_true Bool.not_false Bool.not_eq_true' Bool.or_true Bool.true_or Bool.or_false Bool.false_or ge_iff_le gt_iff_lt and_assoc Bool.decide_eq_true beq_iff_eq beq_eq_false_iff_ne bne_iff_ne bne_self_eq_false if_true if_false Bool.and_eq_true Bool.or_eq_true Bool.and_eq_false_imp Bool.or_eq_false_iff Bool.not_eq_false' has Option.isSome_some Option.isSome_none Int.toNat_natCast Int.cast_ofNat_Int List.length_append xapp2 xapp xappS xappD xappB notInt srcOf srcB byteAV splice' xcut xcutS xcutF xcutB xcutN xcut0 cutL loOf hiOf evo xmake zelem xmax xcopy2 xcopyS xcopyB xnil xcut3 ixOf xclear2 xclearB List.getElem?_toArray xbin2 xnileq xempty xmkmap xmput xmputB xmputF isKey keyEq mfind xbin3 xeqs xeqop eqFs bothB leafEq
set_option maxRecDepth 100000
set_option linter.unusedSimpArgs false
set_option linter.unusedVariables false

theorem hb20 : hasBody Tryd.prog 20 = true := by kernel_rfl

def pairsL (a b : List (List UInt8)) : List (Nat × Nat) := if cmpL a b ≤ 0 then keptL a b 0 0 else (keptL b a 0 0).map swp

def mixP (ps : List (Nat × Nat)) (i : Nat) : List (Nat × Nat) := (ps.take i).map swp ++ ps.drop i
theorem mixP_len (ps : List (Nat × Nat)) (i : Nat) : (mixP ps i).length = ps.length := by simp [mixP]; omega
theorem mixP_zero (ps : List (Nat × Nat)) : mixP ps 0 = ps := by simp [mixP]
theorem mixP_get {ps : List (Nat × Nat)} {i : Nat} (h : i < ps.length) : (prs (mixP ps i)).getD i .any = .agg [.int .i64 (ps[i].1 : Nat), .int .i64 (ps[i].2 : Nat)] := by
  have : (mixP ps i)[i]? = some ps[i] := by
    rw [mixP, List.getElem?_append_right (by simp; omega)]
    simp [Nat.min_eq_left (Nat.le_of_lt h), h]
  simp [prs, List.getD, this]
theorem mixP_set {ps : List (Nat × Nat)} {i : Nat} (h : i < ps.length) : (prs (mixP ps i)).set i (.agg [.int .i64 (ps[i].2 : Nat), .int .i64 (ps[i].1 : Nat)]) = prs (mixP ps (i + 1)) := by
  have e : (mixP ps i).set i (swp ps[i]) = mixP ps (i + 1) := by
    have hl : ((ps.take i).map swp).length = i := by simp; omega
    rw [mixP, List.set_append_right _ _ (by omega), hl, Nat.sub_self, List.drop_eq_getElem_cons h, List.set_cons_zero, mixP, List.take_succ_eq_append_getElem h, List.map_append]
    simp
  rw [← e]
  simp [prs, swp]

theorem keptL_len : ∀ (a b : List (List UInt8)) (i j : Nat), (keptL a b i j).length ≤ a.length
  | [], _, _, _ => by simp [keptL]
  | x :: a, b, i, j => by
    rw [keptL]
    split
    · have := keptL_len a b (i + 1) j; simp; omega
    · rename_i k _
      split
      · have := keptL_len a (b.drop (k + 1)) (i + 1) (j + k + 1); simp; omega
      · have := keptL_len a b (i + 1) j; simp; omega

theorem pairs_ct (a b : List (List UInt8)) (ha : a.length ≤ 3000) (hb : b.length ≤ 3000) :
    Ct Tryd.prog 20 [.fz 1 (strs a), .fz 1 (strs b)] [] (fun r s => r = .sl 0 0 (pairsL a b).length (pairsL a b).length ∧ s = [.arr 2 (prs (pairsL a b))]) := by
  refine ct_intro Tryd.func20 rfl Tryd.ntmps20 hb20 (by simp) fun h ρ w => go (N := 35) Tryd.ntmps20 200 ?_
  simp only [go_sem, Nat.reduceAdd, Nat.reduceMul, Nat.reduceSub, Nat.reduceBEq, Nat.reduceLT, Nat.reduceLeDiff, reduceIte, reduceCtorEq, Int.reduceToNat, Int.reduceLE, Int.reduceLT, Int.reduceNe, Int.reduceMul, Int.reduceAdd, Int.reduceSub, Int.reduceDiv, Int.reduceMod, Int.reduceEq, Int.reduceGE, Int.reduceGT, Int.reduceNeg, Int.reduceBEq, Int.reduceBNe, Nat.reduceEqDiff, ts9, Tryd.underlying3, Tryd.underlying4, Tryd.underlying26]
  refine pcall1 (compare_pc a b (by omega) (by omega)) rfl (N := 35) Tryd.ntmps20 rfl (go (N := 35) Tryd.ntmps20 200 ?_)
  by_cases hc : cmpL a b ≤ 0
  · have hd : decide (cmpL a b ≤ 0) = true := by simpa using hc
    have hp : pairsL a b = keptL a b 0 0 := by simp [pairsL, hc]
    simp only [go_sem, Nat.reduceAdd, Nat.reduceMul, Nat.reduceSub, Nat.reduceBEq, Nat.reduceLT, Nat.reduceLeDiff, reduceIte, reduceCtorEq, Int.reduceToNat, Int.reduceLE, Int.reduceLT, Int.reduceNe, Int.reduceMul, Int.reduceAdd, Int.reduceSub, Int.reduceDiv, Int.reduceMod, Int.reduceEq, Int.reduceGE, Int.reduceGT, Int.reduceNeg, Int.reduceBEq, Int.reduceBNe, Nat.reduceEqDiff, hd, Tryd.underlying3, Tryd.underlying4, Tryd.underlying26]
    refine acall (kept_ct a b ha hb) (N := 35) Tryd.ntmps20 rfl ?_
    rintro _ _ ⟨rfl, rfl⟩
    refine go (N := 35) Tryd.ntmps20 200 ?_
    simp only [go_sem, Nat.reduceAdd, Nat.reduceMul, Nat.reduceSub, Nat.reduceBEq, Nat.reduceLT, Nat.reduceLeDiff, reduceIte, reduceCtorEq, Int.reduceToNat, Int.reduceLE, Int.reduceLT, Int.reduceNe, Int.reduceMul, Int.reduceAdd, Int.reduceSub, Int.reduceDiv, Int.reduceMod, Int.reduceEq, Int.reduceGE, Int.reduceGT, Int.reduceNeg, Int.reduceBEq, Int.reduceBNe, Nat.reduceEqDiff, Tryd.underlying3, Tryd.underlying4, Tryd.underlying26]
    exact aret [4] rfl ⟨by simp [resV, Av.get, hp], by rw [hp]⟩
  · have hd : decide (cmpL a b ≤ 0) = false := by simpa using hc
    have hp : pairsL a b = (keptL b a 0 0).map swp := by simp [pairsL, hc]
    simp only [go_sem, Nat.reduceAdd, Nat.reduceMul, Nat.reduceSub, Nat.reduceBEq, Nat.reduceLT, Nat.reduceLeDiff, reduceIte, reduceCtorEq, Int.reduceToNat, Int.reduceLE, Int.reduceLT, Int.reduceNe, Int.reduceMul, Int.reduceAdd, Int.reduceSub, Int.reduceDiv, Int.reduceMod, Int.reduceEq, Int.reduceGE, Int.reduceGT, Int.reduceNeg, Int.reduceBEq, Int.reduceBNe, Nat.reduceEqDiff, hd, Tryd.underlying3, Tryd.underlying4, Tryd.underlying26]
    refine acall (kept_ct b a hb ha) (N := 35) Tryd.ntmps20 rfl ?_
    rintro _ _ ⟨rfl, rfl⟩
    have hpl : (keptL b a 0 0).length ≤ 3000 := Nat.le_trans (keptL_len _ _ _ _) hb
    generalize keptL b a 0 0 = ps at hp hpl ⊢
    refine go (N := 35) Tryd.ntmps20 200 ?_
    simp only [go_sem, Nat.reduceAdd, Nat.reduceMul, Nat.reduceSub, Nat.reduceBEq, Nat.reduceLT, Nat.reduceLeDiff, reduceIte, reduceCtorEq, Int.reduceToNat, Int.reduceLE, Int.reduceLT, Int.reduceNe, Int.reduceMul, Int.reduceAdd, Int.reduceSub, Int.reduceDiv, Int.reduceMod, Int.reduceEq, Int.reduceGE, Int.reduceGT, Int.reduceNeg, Int.reduceBEq, Int.reduceBNe, Nat.reduceEqDiff, prs_len, ts54, Tryd.underlying3, Tryd.underlying4, Tryd.underlying26, Tryd.underlying52, Tryd.underlying54]
    refine aloop (ι := Nat) (fun i => ps.length - i)
      (fun i => [(20, .int .i64 i), (19, .int .i64 ps.length), (18, .sl 0 0 ps.length ps.length), (5, .sl 0 0 ps.length ps.length)])
      (fun i => [.arr 2 (prs (mixP ps i))]) (fun i => i ≤ ps.length) 0 (by omega) ?_ ?_
    · rw [mixP_zero]
      refine Shift.weak ?_
      simp only [wk, go_sem, Nat.reduceAdd, Nat.reduceMul, Nat.reduceSub, Nat.reduceBEq, Nat.reduceLT, Nat.reduceLeDiff, reduceIte, reduceCtorEq, Int.reduceToNat, Int.reduceLE, Int.reduceLT, Int.reduceNe, Int.reduceMul, Int.reduceAdd, Int.reduceSub, Int.reduceDiv, Int.reduceMod, Int.reduceEq, Int.reduceGE, Int.reduceGT, Int.reduceNeg, Int.reduceBEq, Int.reduceBNe, Nat.reduceEqDiff]
    · rintro i g1 J hJ
      refine go (N := 35) Tryd.ntmps20 200 ?_
      by_cases hi : (i : Int) < ps.length
      · have hil : i < ps.length := by omega
        simp only [go_sem, Nat.reduceAdd, Nat.reduceMul, Nat.reduceSub, Nat.reduceBEq, Nat.reduceLT, Nat.reduceLeDiff, reduceIte, reduceCtorEq, Int.reduceToNat, Int.reduceLE, Int.reduceLT, Int.reduceNe, Int.reduceMul, Int.reduceAdd, Int.reduceSub, Int.reduceDiv, Int.reduceMod, Int.reduceEq, Int.reduceGE, Int.reduceGT, Int.reduceNeg, Int.reduceBEq, Int.reduceBNe, Nat.reduceEqDiff, hi, prs_len, mixP_len, mixP_get hil, ts3, ts54, za54, Tryd.underlying3, Tryd.underlying4, Tryd.underlying26, Tryd.underlying52, Tryd.underlying54]
        rw [mixP_set hil, show (i : Int) + 1 = ((i + 1 : Nat) : Int) by omega]
        repeat refine And.intro (by omega) ?_
        refine ainv (hJ (i + 1) (by omega) (by omega)) (Shift.only 0 0 (Nat.le_refl _) (Nat.le_refl _) rfl (by simp) (prs_dry _) rfl ?_)
        simp [wkg, okg, go_sem, Nat.reduceAdd, Nat.reduceMul, Nat.reduceSub, Nat.reduceBEq, Nat.reduceLT, Nat.reduceLeDiff, reduceIte, reduceCtorEq, Int.reduceToNat, Int.reduceLE, Int.reduceLT, Int.reduceNe, Int.reduceMul, Int.reduceAdd, Int.reduceSub, Int.reduceDiv, Int.reduceMod, Int.reduceEq, Int.reduceGE, Int.reduceGT, Int.reduceNeg, Int.reduceBEq, Int.reduceBNe, Nat.reduceEqDiff, Av.frozen]
      · simp only [go_sem, Nat.reduceAdd, Nat.reduceMul, Nat.reduceSub, Nat.reduceBEq, Nat.reduceLT, Nat.reduceLeDiff, reduceIte, reduceCtorEq, Int.reduceToNat, Int.reduceLE, Int.reduceLT, Int.reduceNe, Int.reduceMul, Int.reduceAdd, Int.reduceSub, Int.reduceDiv, Int.reduceMod, Int.reduceEq, Int.reduceGE, Int.reduceGT, Int.reduceNeg, Int.reduceBEq, Int.reduceBNe, Nat.reduceEqDiff, hi, prs_len, mixP_len, Tryd.underlying3, Tryd.underlying4, Tryd.underlying26, Tryd.underlying52, Tryd.underlying54]
        have : i = ps.length := by omega
        subst this
        have e : mixP ps ps.length = pairsL a b := by rw [hp]; simp [mixP]
        rw [e]
        exact aret [4] rfl ⟨by simp [resV, Av.get, hp], rfl⟩
end Go.Proofs.YtpjbbpilgfihbaaDoor
