/- A list like another one. Own work of this seat. -/
import Derived.Test.YtpjbbpilgfihbaaDoorSc
import Derived.Test.YtpjbbpilgfihbaaDoorAvX
namespace Go.Proofs.YtpjbbpilgfihbaaDoor
open Go Go.Av Go.RowKit
attribute [local go_sem ↓] br_true br_false dbr_true dbr_false
attribute [local go_sem] run cont br dbr dx dxc dgrd dyld dres dcall calm fieldPlace? allHas step1 opN grdN resN condN exitN stopN exitIt dOk xop xbin xint xarith xstr xbool xpick xnot xneg xextract xpart xpartOk xindex xfieldF fieldD xnew xbox xalloc xfieldAddr xptrAddIf xindexAddr xloadC xload putCells reElem xstoreB xstore xconv xtext xlen xlen2 xcall xfill xbuild cut rep xbuildSlice xbuildSliceD isRow elemD isU8 ev evs evp Go.Av.put Go.Av.get ofConst yldD yldV args0 cellsOf cond_true cond_false decide_true decide_false decide_eq_true_eq decide_eq_false_iff_not List.getElem?_cons_zero List.getElem?_cons_succ List.getElem?_nil List.getD_cons_zero List.getD_cons_succ List.getD_nil List.set_cons_zero List.set_cons_succ List.length_cons List.length_nil List.cons_append List.nil_append List.append_nil List.all_cons List.all_nil List.map_cons List.map_nil List.take_succ_cons List.take_zero List.drop_succ_cons List.drop_zero Bool.and_true Bool.true_and Bool.and_self Bool.and_false Bool.false_and one Go.Av.frozen beq_self_eq_true true_and and_true forall_const false_implies implies_true and_self Option.map_some Option.map_none Nat.zero_add Nat.add_zero Nat.zero_mul Nat.mul_one Nat.one_mul Int.toNat_zero ne_eq not_false_eq_true not_true_eq_false Bool.true_eq_false Bool.false_eq_true List.toList_toArray inr Go.Av.byteOf isByte decide_eq_decide Bool.not_true Bool.not_false Bool.not_eq_true' Bool.or_true Bool.true_or Bool.or_false Bool.false_or ge_iff_le gt_iff_lt and_assoc Bool.decide_eq_true beq_iff_eq beq_eq_false_iff_ne bne_iff_ne bne_self_eq_false if_true if_false Bool.and_eq_true Bool.or_eq_true Bool.and_eq_false_imp Bool.or_eq_false_iff Bool.not_eq_false' has Option.isSome_some Option.isSome_none Int.toNat_natCast Int.cast_ofNat_Int List.length_append xapp2 xapp xappS xappD xappB notInt srcOf srcB byteAV splice' xcut xcutS xcutF xcutB xcutN xcut0 cutL loOf hiOf evo xmake zelem xmax xcopy2 xcopyS xcopyB xnil xcut3 ixOf xclear2 xclearB List.getElem?_toArray xbin2 xnileq xempty xmkmap xmput xmputB xmputF isKey keyEq mfind xbin3 xeqs xeqop eqFs bothB leafEq
set_option maxRecDepth 100000
set_option linter.unusedSimpArgs false
set_option linter.unusedVariables false

theorem hb6 : hasBody Tryd.prog 6 = true := by kernel_rfl

theorem like_mc (L : List Int) (k : Int) (l0 : List (List UInt8)) (h1 : l0.length ≤ 1000) (h3 : 0 ≤ k) (h4 : k ≤ 900000) :
    Mc Tryd.prog 6 2 (str L k) [.fz 1 (strs l0)] (fun r s => ∃ (ls : List (List UInt8)) (k' : Int), r = .fz 1 (strs ls) ∧ ls.length ≤ l0.length + 3 ∧ s = str L k' ∧ k ≤ k' ∧ k' ≤ k + 20) := by
  refine ct_intro Tryd.func6 rfl Tryd.ntmps6 hb6 (by simp) fun h ρ w => go (N := 40) Tryd.ntmps6 200 ?_
  simp only [go_sem, Nat.reduceAdd, Nat.reduceMul, Nat.reduceSub, Nat.reduceBEq, Nat.reduceLT, Nat.reduceLeDiff, reduceIte, reduceCtorEq, Int.reduceToNat, Int.reduceLE, Int.reduceLT, Int.reduceNe, Int.reduceMul, Int.reduceAdd, Int.reduceSub, Int.reduceDiv, Int.reduceMod, Int.reduceEq, Int.reduceGE, Int.reduceGT, Int.reduceNeg, Int.reduceBEq, Int.reduceBNe, Nat.reduceEqDiff, Tryd.underlying3, Tryd.underlying4, Tryd.underlying25, Tryd.underlying26, Tryd.underlying9, ts3, ts9, za9]
  refine acall (clone_ct _ l0 (by omega)) (N := 40) Tryd.ntmps6 rfl ?_
  rintro _ _ ⟨rfl, rfl⟩
  refine go (N := 40) Tryd.ntmps6 200 ?_
  simp only [go_sem, Nat.reduceAdd, Nat.reduceMul, Nat.reduceSub, Nat.reduceBEq, Nat.reduceLT, Nat.reduceLeDiff, reduceIte, reduceCtorEq, Int.reduceToNat, Int.reduceLE, Int.reduceLT, Int.reduceNe, Int.reduceMul, Int.reduceAdd, Int.reduceSub, Int.reduceDiv, Int.reduceMod, Int.reduceEq, Int.reduceGE, Int.reduceGT, Int.reduceNeg, Int.reduceBEq, Int.reduceBNe, Nat.reduceEqDiff, Tryd.underlying3, Tryd.underlying4, Tryd.underlying25, Tryd.underlying26, Tryd.underlying9, ts3, ts9, za9]
  refine mcall (next_mc L k _ (by omega) (by omega) h3 (by omega)) rfl rfl (id := 0) rfl (N := 40) Tryd.ntmps6 rfl ?_
  rintro _ _ ⟨⟨v, rfl, hv0, hv1⟩, rfl⟩
  refine go (N := 40) Tryd.ntmps6 200 ?_
  simp only [go_sem, Nat.reduceAdd, Nat.reduceMul, Nat.reduceSub, Nat.reduceBEq, Nat.reduceLT, Nat.reduceLeDiff, reduceIte, reduceCtorEq, Int.reduceToNat, Int.reduceLE, Int.reduceLT, Int.reduceNe, Int.reduceMul, Int.reduceAdd, Int.reduceSub, Int.reduceDiv, Int.reduceMod, Int.reduceEq, Int.reduceGE, Int.reduceGT, Int.reduceNeg, Int.reduceBEq, Int.reduceBNe, Nat.reduceEqDiff, Tryd.underlying3, Tryd.underlying4, Tryd.underlying25, Tryd.underlying26, Tryd.underlying9, ts3, ts9, za9, tb9]
  have dryl : ∀ ls : List (List UInt8), dry (.arr 1 (strs ls)) = true := fun ls => by
    simp only [dry, flat_strs]
    simp [strs, Av.frozen]
  refine aloop (ι := Int × List (List UInt8) × Int) (fun x => (v - x.1).toNat)
    (fun x => [(11, .int .i64 x.1), (10, .int .i64 v), (5, .sl 1 0 x.2.1.length x.2.1.length), (0, .ptr 0 1 0 0)])
    (fun x => [.arr 2 [str L x.2.2], .arr 1 (strs x.2.1)])
    (fun x => 0 ≤ x.1 ∧ x.1 ≤ v ∧ (x.2.1.length : Int) ≤ l0.length + x.1 ∧ k + 1 ≤ x.2.2 ∧ x.2.2 ≤ k + 1 + 3 * x.1) (0, l0, k + 1) ⟨by omega, by omega, by simp, by simp, by simp⟩ ?_ ?_
  · refine Shift.weak ?_
    simp only [wk, go_sem, Nat.reduceAdd, Nat.reduceMul, Nat.reduceSub, Nat.reduceBEq, Nat.reduceLT, Nat.reduceLeDiff, reduceIte, reduceCtorEq, Int.reduceToNat, Int.reduceLE, Int.reduceLT, Int.reduceNe, Int.reduceMul, Int.reduceAdd, Int.reduceSub, Int.reduceDiv, Int.reduceMod, Int.reduceEq, Int.reduceGE, Int.reduceGT, Int.reduceNeg, Int.reduceBEq, Int.reduceBNe, Nat.reduceEqDiff]
  · rintro ⟨i, ls, k1⟩ ⟨g1, g2, g3, g4, g5⟩ J hJ
    simp only at g1 g2 g3 g4 g5 hJ ⊢
    refine go (N := 40) Tryd.ntmps6 200 ?_
    simp only [go_sem, Nat.reduceAdd, Nat.reduceMul, Nat.reduceSub, Nat.reduceBEq, Nat.reduceLT, Nat.reduceLeDiff, reduceIte, reduceCtorEq, Int.reduceToNat, Int.reduceLE, Int.reduceLT, Int.reduceNe, Int.reduceMul, Int.reduceAdd, Int.reduceSub, Int.reduceDiv, Int.reduceMod, Int.reduceEq, Int.reduceGE, Int.reduceGT, Int.reduceNeg, Int.reduceBEq, Int.reduceBNe, Nat.reduceEqDiff, Tryd.underlying3, Tryd.underlying4, Tryd.underlying25, Tryd.underlying26, Tryd.underlying9, ts3, ts9, za9, tb9]
    refine ⟨fun g6 => ?_, fun g6 => ?_⟩
    · refine ⟨by simp, by omega, by omega, ?_⟩
      refine mcall (next_mc L k1 _ (by omega) (by omega) (by omega) (by omega)) rfl rfl (id := 0) rfl (N := 40) Tryd.ntmps6 rfl ?_
      rintro _ _ ⟨⟨n, rfl, hn0, hn1⟩, rfl⟩
      obtain ⟨m, rfl⟩ := Int.eq_ofNat_of_zero_le hn0
      have hls : ls.length = (strs ls).length := by simp
      by_cases hlt : (m : Int) < ls.length
      · refine go (N := 40) Tryd.ntmps6 200 ?_
        simp only [go_sem, Nat.reduceAdd, Nat.reduceMul, Nat.reduceSub, Nat.reduceBEq, Nat.reduceLT, Nat.reduceLeDiff, reduceIte, reduceCtorEq, Int.reduceToNat, Int.reduceLE, Int.reduceLT, Int.reduceNe, Int.reduceMul, Int.reduceAdd, Int.reduceSub, Int.reduceDiv, Int.reduceMod, Int.reduceEq, Int.reduceGE, Int.reduceGT, Int.reduceNeg, Int.reduceBEq, Int.reduceBNe, Nat.reduceEqDiff, hlt, Tryd.underlying3, Tryd.underlying4, Tryd.underlying25, Tryd.underlying26, Tryd.underlying9, ts3, ts9, za9, tb9]
        refine ⟨hls, ?_⟩
        refine mcall (flip_mc L (k1 + 1) 2 (by omega) (by omega) (by omega) (by omega)) rfl rfl (id := 0) rfl (N := 40) Tryd.ntmps6 rfl ?_
        rintro _ _ ⟨⟨b, rfl⟩, rfl⟩
        refine goF (N := 40) Tryd.ntmps6 200 ?_
        cases b with
        | true =>
          simp only [go_sem, Nat.reduceAdd, Nat.reduceMul, Nat.reduceSub, Nat.reduceBEq, Nat.reduceLT, Nat.reduceLeDiff, reduceIte, reduceCtorEq, Int.reduceToNat, Int.reduceLE, Int.reduceLT, Int.reduceNe, Int.reduceMul, Int.reduceAdd, Int.reduceSub, Int.reduceDiv, Int.reduceMod, Int.reduceEq, Int.reduceGE, Int.reduceGT, Int.reduceNeg, Int.reduceBEq, Int.reduceBNe, Nat.reduceEqDiff, hlt, Tryd.underlying3, Tryd.underlying4, Tryd.underlying25, Tryd.underlying26, Tryd.underlying9, ts3, ts9, za9, tb9]
          refine ⟨by omega, by omega, ?_⟩
          refine acall (delete_ct (id := 1) (l := ls) (i := m) (j := m + 1) rfl (by omega) (by omega) (by omega)) (N := 40) Tryd.ntmps6 rfl ?_
          rintro _ _ ⟨rfl, rfl⟩
          have e := delStr_length (l := ls) (i := m) (j := m + 1) (by omega) (by omega)
          refine go (N := 40) Tryd.ntmps6 200 ?_
          simp only [go_sem, Nat.reduceAdd, Nat.reduceMul, Nat.reduceSub, Nat.reduceBEq, Nat.reduceLT, Nat.reduceLeDiff, reduceIte, reduceCtorEq, Int.reduceToNat, Int.reduceLE, Int.reduceLT, Int.reduceNe, Int.reduceMul, Int.reduceAdd, Int.reduceSub, Int.reduceDiv, Int.reduceMod, Int.reduceEq, Int.reduceGE, Int.reduceGT, Int.reduceNeg, Int.reduceBEq, Int.reduceBNe, Nat.reduceEqDiff, Tryd.underlying3, Tryd.underlying4, Tryd.underlying25, Tryd.underlying26, Tryd.underlying9, ts3, ts9, za9, tb9]
          rw [← e]
          refine ⟨by omega, by omega, ainv (hJ (i + 1, delStr ls m (m + 1), k1 + 1 + 1) ⟨by simp only; omega, by simp only; omega, by simp only; omega, by simp only; omega, by simp only; omega⟩ (by simp only; omega)) (Shift.only 1 2 (by simp) (by simp) rfl (by simp) (dryl _) rfl ?_)⟩
          simp only [wkg, okg, go_sem, Nat.reduceAdd, Nat.reduceMul, Nat.reduceSub, Nat.reduceBEq, Nat.reduceLT, Nat.reduceLeDiff, reduceIte, reduceCtorEq, Int.reduceToNat, Int.reduceLE, Int.reduceLT, Int.reduceNe, Int.reduceMul, Int.reduceAdd, Int.reduceSub, Int.reduceDiv, Int.reduceMod, Int.reduceEq, Int.reduceGE, Int.reduceGT, Int.reduceNeg, Int.reduceBEq, Int.reduceBNe, Nat.reduceEqDiff, Av.frozen, true_and, and_true, Nat.lt_irrefl, false_and, or_true, false_or, Nat.zero_lt_one]
        | false =>
          simp only [go_sem, Nat.reduceAdd, Nat.reduceMul, Nat.reduceSub, Nat.reduceBEq, Nat.reduceLT, Nat.reduceLeDiff, reduceIte, reduceCtorEq, Int.reduceToNat, Int.reduceLE, Int.reduceLT, Int.reduceNe, Int.reduceMul, Int.reduceAdd, Int.reduceSub, Int.reduceDiv, Int.reduceMod, Int.reduceEq, Int.reduceGE, Int.reduceGT, Int.reduceNeg, Int.reduceBEq, Int.reduceBNe, Nat.reduceEqDiff, hlt, Tryd.underlying3, Tryd.underlying4, Tryd.underlying25, Tryd.underlying26, Tryd.underlying9, ts3, ts9, za9, tb9]
          refine mcall (one_mc L (k1 + 1 + 1) [[97], [98], [120], [121]] (by simp) (by simp) (by omega) (by omega)) rfl rfl (id := 0) rfl (N := 40) Tryd.ntmps6 rfl ?_
          rintro _ _ ⟨⟨x, hx, rfl⟩, rfl⟩
          refine go (N := 40) Tryd.ntmps6 200 ?_
          simp only [go_sem, Nat.reduceAdd, Nat.reduceMul, Nat.reduceSub, Nat.reduceBEq, Nat.reduceLT, Nat.reduceLeDiff, reduceIte, reduceCtorEq, Int.reduceToNat, Int.reduceLE, Int.reduceLT, Int.reduceNe, Int.reduceMul, Int.reduceAdd, Int.reduceSub, Int.reduceDiv, Int.reduceMod, Int.reduceEq, Int.reduceGE, Int.reduceGT, Int.reduceNeg, Int.reduceBEq, Int.reduceBNe, Nat.reduceEqDiff, Tryd.underlying3, Tryd.underlying4, Tryd.underlying25, Tryd.underlying26, Tryd.underlying9, ts3, ts9, za9, tb9]
          refine acall (insert_ct (id := 1) (jd := 2) (l := ls) (x := x) (k := m) rfl rfl (by omega) (by omega) (by omega)) (N := 40) Tryd.ntmps6 rfl ?_
          rintro _ _ ⟨rfl, rfl⟩
          have e := insStr_length (l := ls) (x := x) (k := m) (by omega)
          refine go (N := 40) Tryd.ntmps6 200 ?_
          simp only [go_sem, Nat.reduceAdd, Nat.reduceMul, Nat.reduceSub, Nat.reduceBEq, Nat.reduceLT, Nat.reduceLeDiff, reduceIte, reduceCtorEq, Int.reduceToNat, Int.reduceLE, Int.reduceLT, Int.reduceNe, Int.reduceMul, Int.reduceAdd, Int.reduceSub, Int.reduceDiv, Int.reduceMod, Int.reduceEq, Int.reduceGE, Int.reduceGT, Int.reduceNeg, Int.reduceBEq, Int.reduceBNe, Nat.reduceEqDiff, Tryd.underlying3, Tryd.underlying4, Tryd.underlying25, Tryd.underlying26, Tryd.underlying9, ts3, ts9, za9, tb9]
          rw [← e]
          refine ⟨by omega, by omega, ainv (hJ (i + 1, insStr ls m x, k1 + 1 + 1 + 1) ⟨by simp only; omega, by simp only; omega, by simp only; omega, by simp only; omega, by simp only; omega⟩ (by simp only; omega)) (Shift.only 1 1 (by simp) (by simp) rfl (by simp) (dryl _) rfl ?_)⟩
          simp only [wkg, okg, go_sem, Nat.reduceAdd, Nat.reduceMul, Nat.reduceSub, Nat.reduceBEq, Nat.reduceLT, Nat.reduceLeDiff, reduceIte, reduceCtorEq, Int.reduceToNat, Int.reduceLE, Int.reduceLT, Int.reduceNe, Int.reduceMul, Int.reduceAdd, Int.reduceSub, Int.reduceDiv, Int.reduceMod, Int.reduceEq, Int.reduceGE, Int.reduceGT, Int.reduceNeg, Int.reduceBEq, Int.reduceBNe, Nat.reduceEqDiff, Av.frozen, true_and, and_true, Nat.lt_irrefl, false_and, or_true, false_or, Nat.zero_lt_one]
      · refine goF (N := 40) Tryd.ntmps6 200 ?_
        simp only [go_sem, Nat.reduceAdd, Nat.reduceMul, Nat.reduceSub, Nat.reduceBEq, Nat.reduceLT, Nat.reduceLeDiff, reduceIte, reduceCtorEq, Int.reduceToNat, Int.reduceLE, Int.reduceLT, Int.reduceNe, Int.reduceMul, Int.reduceAdd, Int.reduceSub, Int.reduceDiv, Int.reduceMod, Int.reduceEq, Int.reduceGE, Int.reduceGT, Int.reduceNeg, Int.reduceBEq, Int.reduceBNe, Nat.reduceEqDiff, hlt, Tryd.underlying3, Tryd.underlying4, Tryd.underlying25, Tryd.underlying26, Tryd.underlying9, ts3, ts9, za9, tb9]
        refine ⟨hls, ?_⟩
        refine mcall (one_mc L (k1 + 1) [[97], [98], [120], [121]] (by simp) (by simp) (by omega) (by omega)) rfl rfl (id := 0) rfl (N := 40) Tryd.ntmps6 rfl ?_
        rintro _ _ ⟨⟨x, hx, rfl⟩, rfl⟩
        refine go (N := 40) Tryd.ntmps6 200 ?_
        simp only [go_sem, Nat.reduceAdd, Nat.reduceMul, Nat.reduceSub, Nat.reduceBEq, Nat.reduceLT, Nat.reduceLeDiff, reduceIte, reduceCtorEq, Int.reduceToNat, Int.reduceLE, Int.reduceLT, Int.reduceNe, Int.reduceMul, Int.reduceAdd, Int.reduceSub, Int.reduceDiv, Int.reduceMod, Int.reduceEq, Int.reduceGE, Int.reduceGT, Int.reduceNeg, Int.reduceBEq, Int.reduceBNe, Nat.reduceEqDiff, Tryd.underlying3, Tryd.underlying4, Tryd.underlying25, Tryd.underlying26, Tryd.underlying9, ts3, ts9, za9, tb9]
        refine acall (insert_ct (id := 1) (jd := 2) (l := ls) (x := x) (k := m) rfl rfl (by omega) (by omega) (by omega)) (N := 40) Tryd.ntmps6 rfl ?_
        rintro _ _ ⟨rfl, rfl⟩
        have e := insStr_length (l := ls) (x := x) (k := m) (by omega)
        refine go (N := 40) Tryd.ntmps6 200 ?_
        simp only [go_sem, Nat.reduceAdd, Nat.reduceMul, Nat.reduceSub, Nat.reduceBEq, Nat.reduceLT, Nat.reduceLeDiff, reduceIte, reduceCtorEq, Int.reduceToNat, Int.reduceLE, Int.reduceLT, Int.reduceNe, Int.reduceMul, Int.reduceAdd, Int.reduceSub, Int.reduceDiv, Int.reduceMod, Int.reduceEq, Int.reduceGE, Int.reduceGT, Int.reduceNeg, Int.reduceBEq, Int.reduceBNe, Nat.reduceEqDiff, Tryd.underlying3, Tryd.underlying4, Tryd.underlying25, Tryd.underlying26, Tryd.underlying9, ts3, ts9, za9, tb9]
        rw [← e]
        refine ⟨by omega, by omega, ainv (hJ (i + 1, insStr ls m x, k1 + 1 + 1) ⟨by simp only; omega, by simp only; omega, by simp only; omega, by simp only; omega, by simp only; omega⟩ (by simp only; omega)) (Shift.only 1 1 (by simp) (by simp) rfl (by simp) (dryl _) rfl ?_)⟩
        simp only [wkg, okg, go_sem, Nat.reduceAdd, Nat.reduceMul, Nat.reduceSub, Nat.reduceBEq, Nat.reduceLT, Nat.reduceLeDiff, reduceIte, reduceCtorEq, Int.reduceToNat, Int.reduceLE, Int.reduceLT, Int.reduceNe, Int.reduceMul, Int.reduceAdd, Int.reduceSub, Int.reduceDiv, Int.reduceMod, Int.reduceEq, Int.reduceGE, Int.reduceGT, Int.reduceNeg, Int.reduceBEq, Int.reduceBNe, Nat.reduceEqDiff, Av.frozen, true_and, and_true, Nat.lt_irrefl, false_and, or_true, false_or, Nat.zero_lt_one]
    · refine ARet.shift (Shift.freeze 4 (id := 1) rfl rfl (by simp [strs]) (Nat.le_refl _) (by have := dryl ls; simpa [dry] using this)) (aret [4] rfl ⟨_, _, rfl, ⟨ls, k1, ?_, by omega, rfl, by omega, by omega⟩, rfl, rfl⟩)
      simp [resV, Av.get, Av.put, strs, List.take_of_length_le]
end Go.Proofs.YtpjbbpilgfihbaaDoor
