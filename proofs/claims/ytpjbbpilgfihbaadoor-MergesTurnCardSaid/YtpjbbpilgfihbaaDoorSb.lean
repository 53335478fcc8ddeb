/- Lists out of the stream. Own work of this seat. -/
import Derived.Test.YtpjbbpilgfihbaaDoorSa
namespace Go.Proofs.YtpjbbpilgfihbaaDoor
open Go Go.Av Go.RowKit
attribute [local go_sem ↓] br_true br_false dbr_true dbr_false
attribute [local go_sem] run cont br dbr dx dxc dgrd dyld dres dcall calm fieldPlace? allHas step1 opN grdN resN condN exitN stopN exitIt dOk xop xbin xint xarith xstr xbool xpick xnot xneg xextract xpart xpartOk xindex xfieldF fieldD xnew xbox xalloc xfieldAddr xptrAddIf xindexAddr xloadC xload putCells reElem xstoreB xstore xconv xtext xlen xlen2 xcall xfill xbuild cut rep xbuildSlice xbuildSliceD isRow elemD isU8 ev evs evp Go.Av.put Go.Av.get ofConst yldD yldV args0 cellsOf cond_true cond_false decide_true decide_false decide_eq_true_eq decide_eq_false_iff_not List.getElem?_cons_zero List.getElem?_cons_succ List.getElem?_nil List.getD_cons_zero List.getD_cons_succ List.getD_nil List.set_cons_zero List.set_cons_succ List.length_cons List.length_nil List.cons_append List.nil_append List.append_nil List.all_cons List.all_nil List.map_cons List.map_nil List.take_succ_cons List.take_zero List.drop_succ_cons List.drop_zero Bool.and_true Bool.true_and Bool.and_self Bool.and_false Bool.false_and one Go.Av.frozen beq_self_eq_true true_and and_true forall_const false_implies implies_true and_self Option.map_some Option.map_none Nat.zero_add Nat.add_zero Nat.zero_mul Nat.mul_one Nat.one_mul Int.toNat_zero ne_eq not_false_eq_true not_true_eq_false Bool.true_eq_false Bool.false_eq_true List.toList_toArray inr Go.Av.byteOf isByte decide_eq_decide Bool.not_true Bool.not_false Bool.not_eq_true' Bool.or_true Bool.true_or Bool.or_false Bool.false_or ge_iff_le gt_iff_lt and_assoc Bool.decide_eq_true beq_iff_eq beq_eq_false_iff_ne bne_iff_ne bne_self_eq_false if_true if_false Bool.and_eq_true Bool.or_eq_true Bool.and_eq_false_imp Bool.or_eq_false_iff Bool.not_eq_false' has Option.isSome_some Option.isSome_none Int.toNat_natCast Int.cast_ofNat_Int List.length_append xapp2 xapp xappS xappD xappB notInt srcOf srcB byteAV splice' xcut xcutS xcutF xcutB xcutN xcut0 cutL loOf hiOf evo xmake zelem xmax xcopy2 xcopyS xcopyB xnil xcut3 ixOf xclear2 xclearB List.getElem?_toArray xbin2 xnileq xempty xmkmap xmput xmputB xmputF isKey keyEq mfind xbin3 xeqs xeqop eqFs bothB leafEq
set_option maxRecDepth 100000
set_option linter.unusedSimpArgs false
set_option linter.unusedVariables false

theorem za9 : zav Tryd.prog 9 = [.str []] := by kernel_rfl
theorem tb9 : tbytes Tryd.prog 9 = 16 := by kernel_rfl
theorem hb5 : hasBody Tryd.prog 5 = true := by kernel_rfl

theorem lines_mc (L : List Int) (k m : Int) (h1 : 0 ≤ m) (h2 : m ≤ 1000) (h3 : 0 ≤ k) (h4 : k ≤ 900000) :
    Mc Tryd.prog 5 2 (str L k) [.int .i64 m] (fun r s => ∃ (ls : List (List UInt8)) (k' : Int), r = .fz 1 (ls.map .str) ∧ ls.length ≤ m ∧ s = str L k' ∧ k ≤ k' ∧ k' ≤ k + 2000) := by
  refine ct_intro Tryd.func5 rfl Tryd.ntmps5 hb5 (by simp) fun h ρ w => goF (N := 20) Tryd.ntmps5 200 ?_
  simp only [go_sem, Nat.reduceAdd, Nat.reduceMul, Nat.reduceSub, Nat.reduceBEq, Nat.reduceLT, Nat.reduceLeDiff, reduceIte, reduceCtorEq, Int.reduceToNat, Int.reduceLE, Int.reduceLT, Int.reduceNe, Int.reduceMul, Int.reduceAdd, Int.reduceSub, Int.reduceDiv, Int.reduceMod, Int.reduceEq, Int.reduceGE, Int.reduceGT, Int.reduceNeg, Int.reduceBEq, Int.reduceBNe, Nat.reduceEqDiff, Tryd.underlying3, Tryd.underlying25, Tryd.underlying26, Tryd.underlying9, ts3, ts9, za9]
  refine ⟨by omega, by omega, ?_⟩
  refine mcall (next_mc L k _ (by omega) (by omega) h3 (by omega)) rfl rfl (id := 0) rfl (N := 20) Tryd.ntmps5 rfl ?_
  rintro _ _ ⟨⟨v, rfl, hv0, hv1⟩, rfl⟩
  refine goF (N := 20) Tryd.ntmps5 200 ?_
  simp only [go_sem, Nat.reduceAdd, Nat.reduceMul, Nat.reduceSub, Nat.reduceBEq, Nat.reduceLT, Nat.reduceLeDiff, reduceIte, reduceCtorEq, Int.reduceToNat, Int.reduceLE, Int.reduceLT, Int.reduceNe, Int.reduceMul, Int.reduceAdd, Int.reduceSub, Int.reduceDiv, Int.reduceMod, Int.reduceEq, Int.reduceGE, Int.reduceGT, Int.reduceNeg, Int.reduceBEq, Int.reduceBNe, Nat.reduceEqDiff, Tryd.underlying3, Tryd.underlying25, Tryd.underlying26, Tryd.underlying9, ts3, ts9, za9]
  refine aloop (ι := Int × List (List UInt8)) (fun x => (v - x.1).toNat)
    (fun x => [(10, .int .i64 x.1), (9, .int .i64 v), (5, .sl 1 0 x.2.length x.2.length), (0, .ptr 0 1 0 0)])
    (fun x => [.arr 2 [str L (k + 1 + x.1)], .arr 1 (x.2.map .str)])
    (fun x => 0 ≤ x.1 ∧ x.1 ≤ v ∧ (x.2.length : Int) = x.1) (0, []) ⟨by omega, by omega, rfl⟩ ?_ ?_
  · have h0 : k + 1 + 0 = k + 1 := by omega
    simp only [h0]
    refine Shift.trans (Shift.nilsl 5 1 rfl) (Shift.weak ?_)
    simp only [wk, go_sem, Nat.reduceAdd, Nat.reduceMul, Nat.reduceSub, Nat.reduceBEq, Nat.reduceLT, Nat.reduceLeDiff, reduceIte, reduceCtorEq, Int.reduceToNat, Int.reduceLE, Int.reduceLT, Int.reduceNe, Int.reduceMul, Int.reduceAdd, Int.reduceSub, Int.reduceDiv, Int.reduceMod, Int.reduceEq, Int.reduceGE, Int.reduceGT, Int.reduceNeg, Int.reduceBEq, Int.reduceBNe, Nat.reduceEqDiff]
  · rintro ⟨i, ls⟩ ⟨g1, g2, g3⟩ J hJ
    simp only at g1 g2 g3 hJ ⊢
    refine goF (N := 20) Tryd.ntmps5 200 ?_
    simp only [go_sem, Nat.reduceAdd, Nat.reduceMul, Nat.reduceSub, Nat.reduceBEq, Nat.reduceLT, Nat.reduceLeDiff, reduceIte, reduceCtorEq, Int.reduceToNat, Int.reduceLE, Int.reduceLT, Int.reduceNe, Int.reduceMul, Int.reduceAdd, Int.reduceSub, Int.reduceDiv, Int.reduceMod, Int.reduceEq, Int.reduceGE, Int.reduceGT, Int.reduceNeg, Int.reduceBEq, Int.reduceBNe, Nat.reduceEqDiff, Tryd.underlying3, Tryd.underlying25, Tryd.underlying26, Tryd.underlying9, ts3, ts9, za9]
    refine ⟨fun g4 => ?_, fun g4 => ?_⟩
    · refine mcall (one_mc L (k + 1 + i) [[97], [98], [99], [97], []] (by simp) (by simp) (by omega) (by omega)) rfl rfl (id := 0) rfl (N := 20) Tryd.ntmps5 rfl ?_
      rintro _ _ ⟨⟨x, hx, rfl⟩, rfl⟩
      refine goF (N := 20) Tryd.ntmps5 200 ?_
      simp only [go_sem, Nat.reduceAdd, Nat.reduceMul, Nat.reduceSub, Nat.reduceBEq, Nat.reduceLT, Nat.reduceLeDiff, reduceIte, reduceCtorEq, Int.reduceToNat, Int.reduceLE, Int.reduceLT, Int.reduceNe, Int.reduceMul, Int.reduceAdd, Int.reduceSub, Int.reduceDiv, Int.reduceMod, Int.reduceEq, Int.reduceGE, Int.reduceGT, Int.reduceNeg, Int.reduceBEq, Int.reduceBNe, Nat.reduceEqDiff, Tryd.underlying3, Tryd.underlying25, Tryd.underlying26, Tryd.underlying9, ts3, ts9, za9, tb9]
      refine ⟨by simp, .inl trivial, by simp; omega, by simp; omega, by omega, by omega, ?_⟩
      have e1 : k + 1 + i + 1 = k + 1 + (i + 1) := by omega
      have e2 : List.map AV.str ls ++ [AV.str x] = List.map AV.str (ls ++ [x]) := by simp
      have e3 : ls.length + 1 = (ls ++ [x]).length := by simp
      rw [e1, e2, e3]
      refine ainv (hJ (i + 1, ls ++ [x]) ⟨by simp; omega, by simp; omega, by simp; omega⟩ (by simp; omega)) (Shift.weak ?_)
      simp only [wk, go_sem, Nat.reduceAdd, Nat.reduceMul, Nat.reduceSub, Nat.reduceBEq, Nat.reduceLT, Nat.reduceLeDiff, reduceIte, reduceCtorEq, Int.reduceToNat, Int.reduceLE, Int.reduceLT, Int.reduceNe, Int.reduceMul, Int.reduceAdd, Int.reduceSub, Int.reduceDiv, Int.reduceMod, Int.reduceEq, Int.reduceGE, Int.reduceGT, Int.reduceNeg, Int.reduceBEq, Int.reduceBNe, Nat.reduceEqDiff]
    · have hf : ∀ l : List (List UInt8), (flat (l.map AV.str)).all Av.frozen = true := fun l => by
        induction l with
        | nil => rfl
        | cons y l ih => simpa [flat, cellsOf, Av.frozen] using ih
      refine ARet.shift (Shift.freeze 4 (id := 1) rfl rfl (by simp) (Nat.le_refl _) (hf ls)) (aret [4] rfl ⟨_, _, rfl, ⟨ls, k + 1 + i, ?_, by omega, rfl, by omega, by omega⟩, rfl, rfl⟩)
      simp [resV, Av.get, Av.put, List.take_of_length_le]

theorem flip_mc (L : List Int) (k n : Int) (h1 : 1 ≤ n) (h2 : n ≤ 1000) (h3 : 0 ≤ k) (h4 : k ≤ 1000000) :
    Mc Tryd.prog 16 2 (str L k) [.int .i64 n] (fun r s => (∃ b, r = .bool b) ∧ s = str L (k + 1)) := by
  refine ct_intro Tryd.func16 rfl Tryd.ntmps16 hb16 (by simp) fun h ρ w => go (N := 9) Tryd.ntmps16 200 ?_
  simp only [go_sem, Nat.reduceAdd, Nat.reduceMul, Nat.reduceSub, Nat.reduceBEq, Nat.reduceLT, Nat.reduceLeDiff, reduceIte, reduceCtorEq, Int.reduceToNat, Int.reduceLE, Int.reduceLT, Int.reduceNe, Int.reduceMul, Int.reduceAdd, Int.reduceSub, Int.reduceDiv, Int.reduceMod, Int.reduceEq, Int.reduceGE, Int.reduceGT, Int.reduceNeg, Int.reduceBEq, Int.reduceBNe, Nat.reduceEqDiff, Tryd.underlying3, Tryd.underlying4, ts3]
  refine mcall (next_mc L k _ (by omega) (by omega) h3 h4) rfl rfl (id := 0) rfl (N := 9) Tryd.ntmps16 rfl ?_
  rintro _ _ ⟨⟨v, rfl, hv0, hv1⟩, rfl⟩
  refine go (N := 9) Tryd.ntmps16 200 ?_
  simp only [go_sem, Nat.reduceAdd, Nat.reduceMul, Nat.reduceSub, Nat.reduceBEq, Nat.reduceLT, Nat.reduceLeDiff, reduceIte, reduceCtorEq, Int.reduceToNat, Int.reduceLE, Int.reduceLT, Int.reduceNe, Int.reduceMul, Int.reduceAdd, Int.reduceSub, Int.reduceDiv, Int.reduceMod, Int.reduceEq, Int.reduceGE, Int.reduceGT, Int.reduceNeg, Int.reduceBEq, Int.reduceBNe, Nat.reduceEqDiff, Tryd.underlying3, Tryd.underlying4, ts3]
  exact aret [4] rfl ⟨_, _, rfl, ⟨_, rfl⟩, rfl, rfl, rfl⟩
end Go.Proofs.YtpjbbpilgfihbaaDoor
