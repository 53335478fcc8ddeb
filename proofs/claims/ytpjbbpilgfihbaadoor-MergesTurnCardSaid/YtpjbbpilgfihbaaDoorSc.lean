/- slices.Clone, slices.Insert, slices.Delete at []string. Own work of this seat. -/
import Derived.Test.YtpjbbpilgfihbaaDoorSb
import Derived.Test.YtpjbbpilgfihbaaDoorSh
import Derived.Test.YtpjbbpilgfihbaaDoorAvW
namespace Go.Proofs.YtpjbbpilgfihbaaDoor
open Go Go.Av Go.RowKit
attribute [local go_sem ↓] br_true br_false dbr_true dbr_false
attribute [local go_sem] run cont br dbr dx dxc dgrd dyld dres dcall calm fieldPlace? allHas step1 opN grdN resN condN exitN stopN exitIt dOk xop xbin xint xarith xstr xbool xpick xnot xneg xextract xpart xpartOk xindex xfieldF fieldD xnew xbox xalloc xfieldAddr xptrAddIf xindexAddr xloadC xload putCells reElem xstoreB xstore xconv xtext xlen xlen2 xcall xfill xbuild cut rep xbuildSlice xbuildSliceD isRow elemD isU8 ev evs evp Go.Av.put Go.Av.get ofConst yldD yldV args0 cellsOf cond_true cond_false decide_true decide_false decide_eq_true_eq decide_eq_false_iff_not List.getElem?_cons_zero List.getElem?_cons_succ List.getElem?_nil List.getD_cons_zero List.getD_cons_succ List.getD_nil List.set_cons_zero List.set_cons_succ List.length_cons List.length_nil List.cons_append List.nil_append List.append_nil List.all_cons List.all_nil List.map_cons List.map_nil List.take_succ_cons List.take_zero List.drop_succ_cons List.drop_zero Bool.and_true Bool.true_and Bool.and_self Bool.and_false Bool.false_and one Go.Av.frozen beq_self_eq_true true_and and_true forall_const false_implies implies_true and_self Option.map_some Option.map_none Nat.zero_add Nat.add_zero Nat.zero_mul Nat.mul_one Nat.one_mul Int.toNat_zero ne_eq not_false_eq_true not_true_eq_false Bool.true_eq_false Bool.false_eq_true List.toList_toArray inr Go.Av.byteOf isByte decide_eq_decide Bool.not_true Bool.not_false Bool.not_eq_true' Bool.or_true Bool.true_or Bool.or_false Bool.false_or ge_iff_le gt_iff_lt and_assoc Bool.decide_eq_true beq_iff_eq beq_eq_false_iff_ne bne_iff_ne bne_self_eq_false if_true if_false Bool.and_eq_true Bool.or_eq_true Bool.and_eq_false_imp Bool.or_eq_false_iff Bool.not_eq_false' has Option.isSome_some Option.isSome_none Int.toNat_natCast Int.cast_ofNat_Int List.length_append xapp2 xapp xappS xappD xappB notInt srcOf srcB byteAV splice' xcut xcutS xcutF xcutB xcutN xcut0 cutL loOf hiOf evo xmake zelem xmax xcopy2 xcopyS xcopyB xnil xcut3 ixOf xclear2 xclearB List.getElem?_toArray xbin2 xnileq xempty xmkmap xmput xmputB xmputF isKey keyEq mfind xbin3 xeqs xeqop eqFs bothB leafEq
set_option maxRecDepth 100000
set_option linter.unusedSimpArgs false
set_option linter.unusedVariables false

theorem hb15 : hasBody Tryd.prog 15 = true := by kernel_rfl
theorem hb17 : hasBody Tryd.prog 17 = true := by kernel_rfl
theorem hb18 : hasBody Tryd.prog 18 = true := by kernel_rfl

theorem getD_end (s : List Blk) (b d : Blk) : (s ++ [b]).getD s.length d = b := by simp
theorem set_end (s : List Blk) (b b' : Blk) : (s ++ [b]).set s.length b' = s ++ [b'] := by simp

/-- slices.Clone at []string -/
theorem clone_ct (sto : List Blk) (ls : List (List UInt8)) (hl : ls.length ≤ 1000000) :
    Ct Tryd.prog 15 [.fz 1 (strs ls)] sto (fun r s => r = .sl sto.length 0 ls.length ls.length ∧ s = sto ++ [.arr 1 (strs ls)]) := by
  cases ls with
  | nil =>
    refine ct_intro Tryd.func15 rfl Tryd.ntmps15 hb15 (by simp) fun h ρ w => go (N := 8) Tryd.ntmps15 200 ?_
    simp only [go_sem, Nat.reduceAdd, Nat.reduceMul, Nat.reduceSub, Nat.reduceBEq, Nat.reduceLT, Nat.reduceLeDiff, reduceIte, reduceCtorEq, Int.reduceToNat, Int.reduceLE, Int.reduceLT, Int.reduceNe, Int.reduceMul, Int.reduceAdd, Int.reduceSub, Int.reduceDiv, Int.reduceMod, Int.reduceEq, Int.reduceGE, Int.reduceGT, Int.reduceNeg, Int.reduceBEq, Int.reduceBNe, Nat.reduceEqDiff, strs, Tryd.underlying3, Tryd.underlying26, Tryd.underlying9, ts9, za9, tb9]
    intro b
    refine go (N := 8) Tryd.ntmps15 200 ?_
    cases b with
    | true =>
      simp only [go_sem, Nat.reduceAdd, Nat.reduceMul, Nat.reduceSub, Nat.reduceBEq, Nat.reduceLT, Nat.reduceLeDiff, reduceIte, reduceCtorEq, Int.reduceToNat, Int.reduceLE, Int.reduceLT, Int.reduceNe, Int.reduceMul, Int.reduceAdd, Int.reduceSub, Int.reduceDiv, Int.reduceMod, Int.reduceEq, Int.reduceGE, Int.reduceGT, Int.reduceNeg, Int.reduceBEq, Int.reduceBNe, Nat.reduceEqDiff, strs, getD_end, set_end, Tryd.underlying3, Tryd.underlying26, Tryd.underlying9, ts9, za9, tb9]
      refine ARet.shift (Shift.nilsl 2 1 rfl) (aret [2] rfl ⟨rfl, rfl⟩)
    | false =>
      simp only [go_sem, Nat.reduceAdd, Nat.reduceMul, Nat.reduceSub, Nat.reduceBEq, Nat.reduceLT, Nat.reduceLeDiff, reduceIte, reduceCtorEq, Int.reduceToNat, Int.reduceLE, Int.reduceLT, Int.reduceNe, Int.reduceMul, Int.reduceAdd, Int.reduceSub, Int.reduceDiv, Int.reduceMod, Int.reduceEq, Int.reduceGE, Int.reduceGT, Int.reduceNeg, Int.reduceBEq, Int.reduceBNe, Nat.reduceEqDiff, strs, getD_end, set_end, Tryd.underlying3, Tryd.underlying26, Tryd.underlying9, ts9, za9, tb9]
      exact ⟨.inl trivial, aret [2] rfl ⟨rfl, rfl⟩⟩
  | cons x ls =>
    refine ct_intro Tryd.func15 rfl Tryd.ntmps15 hb15 (by simp) fun h ρ w => go (N := 8) Tryd.ntmps15 200 ?_
    simp only [go_sem, Nat.reduceAdd, Nat.reduceMul, Nat.reduceSub, Nat.reduceBEq, Nat.reduceLT, Nat.reduceLeDiff, reduceIte, reduceCtorEq, Int.reduceToNat, Int.reduceLE, Int.reduceLT, Int.reduceNe, Int.reduceMul, Int.reduceAdd, Int.reduceSub, Int.reduceDiv, Int.reduceMod, Int.reduceEq, Int.reduceGE, Int.reduceGT, Int.reduceNeg, Int.reduceBEq, Int.reduceBNe, Nat.reduceEqDiff, strs, getD_end, set_end, Tryd.underlying3, Tryd.underlying26, Tryd.underlying9, ts9, za9, tb9]
    refine ⟨by simp, by simp at hl ⊢; omega, by simp at hl ⊢; omega, aret [2] rfl ⟨by simp [resV, Av.get], rfl⟩⟩

theorem delete_ct {sto : List Blk} {id : Nat} {l : List (List UInt8)} {i j : Nat} (hb : sto[id]? = some (.arr 1 (strs l))) (hij : i ≤ j) (hj : j ≤ l.length) (h0 : 0 < l.length) :
    Ct Tryd.prog 17 [.sl id 0 l.length l.length, .int .i64 i, .int .i64 j] sto (fun r s => r = .sl sto.length 0 (l.length - (j - i)) (l.length - (j - i)) ∧ s = sto.set id .dead ++ [.arr 1 (strs (delStr l i j))]) :=
  ct_delete Tryd.laysNm224 hb17 hb hij hj h0 ⟨rfl, rfl⟩

theorem insert_ct {sto : List Blk} {id jd : Nat} {l : List (List UInt8)} {x : List UInt8} {k : Nat} (hb : sto[id]? = some (.arr 1 (strs l))) (hj : sto[jd]? = some (.arr 1 (strs [x]))) (hne : id ≠ jd) (hk : k ≤ l.length) (hbig : l.length ≤ 1000000) :
    Ct Tryd.prog 18 [.sl id 0 l.length l.length, .int .i64 k, .sl jd 0 1 1] sto (fun r s => r = .sl id 0 (l.length + 1) (l.length + 1) ∧ s = sto.set id (.arr 1 (strs (insStr l k x)))) :=
  ct_insert Tryd.laysNm222 hb18 hb hj hne hk hbig ⟨rfl, rfl⟩
end Go.Proofs.YtpjbbpilgfihbaaDoor
