/- Patch. Own work of this seat. -/
import Derived.Test.YtpjbbpilgfihbaaDoorSh2
namespace Go.Proofs.YtpjbbpilgfihbaaDoor
open Go Go.Av Go.RowKit
attribute [local go_sem ↓] br_true br_false dbr_true dbr_false
attribute [local go_sem] run cont br dbr dx dxc dgrd dyld dres dcall calm fieldPlace? allHas step1 opN grdN resN condN exitN stopN exitIt dOk xop xbin xint xarith xstr xbool xpick xnot xneg xextract xpart xpartOk xindex xfieldF fieldD xnew xbox xalloc xfieldAddr xptrAddIf xindexAddr xloadC xload putCells reElem xstoreB xstore xconv xtext xlen xlen2 xcall xfill xbuild cut rep xbuildSlice xbuildSliceD isRow elemD isU8 ev evs evp Go.Av.put Go.Av.get ofConst yldD yldV args0 cellsOf cond_true cond_false decide_true decide_false decide_eq_true_eq decide_eq_false_iff_not List.getElem?_cons_zero List.getElem?_cons_succ List.getElem?_nil List.getD_cons_zero List.getD_cons_succ List.getD_nil List.set_cons_zero List.set_cons_succ List.length_cons List.length_nil List.cons_append List.nil_append List.append_nil List.all_cons List.all_nil List.map_cons List.map_nil List.take_succ_cons List.take_zero List.drop_succ_cons List.drop_zero Bool.and_true Bool.true_and Bool.and_self Bool.and_false Bool.false_and one Go.Av.frozen beq_self_eq_true true_and and_true forall_const false_implies implies_true and_self Option.map_some Option.map_none Nat.zero_add Nat.add_zero Nat.zero_mul Nat.mul_one Nat.one_mul Int.toNat_zero ne_eq not_false_eq_true not_true_eq_false Bool.true_eq_false Bool.false_eq_true List.toList_toArray inr Go.Av.byteOf isByte decide_eq_decide Bool.not_true Bool.not_false Bool.not_eq_true' Bool.or_true Bool.true_or Bool.or_false Bool.false_or ge_iff_le gt_iff_lt and_assoc Bool.decide_eq_true beq_iff_eq beq_eq_false_iff_ne bne_iff_ne bne_self_eq_false if_true if_false Bool.and_eq_true Bool.or_eq_true Bool.and_eq_false_imp Bool.or_eq_false_iff Bool.not_eq_false' has Option.isSome_some Option.isSome_none Int.toNat_natCast Int.cast_ofNat_Int List.length_append xapp2 xapp xappS xappD xappB notInt srcOf srcB byteAV splice' xcut xcutS xcutF xcutB xcutN xcut0 cutL loOf hiOf evo xmake zelem xmax xcopy2 xcopyS xcopyB xnil xcut3 ixOf xclear2 xclearB List.getElem?_toArray xbin2 xnileq xempty xmkmap xmput xmputB xmputF isKey keyEq mfind xbin3 xeqs xeqop eqFs bothB leafEq
set_option maxRecDepth 100000
set_option linter.unusedSimpArgs false
set_option linter.unusedVariables false

theorem hb8 : hasBody Tryd.prog 8 = true := by kernel_rfl

theorem eds_get {l : List Edt} {t : Nat} {e : Edt} (h : l[t]? = some e) : (edsAV l).getD t .any = .agg [.int .i64 (e.at' : Nat), .int .i64 (e.drop : Nat), .fz 1 (strs e.add)] := by simp [edsAV, List.getD, h, edAV]
theorem strs_app (l r : List (List UInt8)) : strs l ++ strs r = strs (l ++ r) := by simp

/-- large, of memory of one's own -/
theorem large_own (l : List (List UInt8)) : Ct Tryd.prog 19 [.sl 0 0 l.length l.length] [.arr 1 (strs l)] (fun r s => r = .bool (decide (3000 < l.length)) ∧ s = [.arr 1 (strs l)]) := by
  refine ct_intro Tryd.func19 rfl Tryd.ntmps19 hb19 (by simp) fun h ρ w => go (N := 6) Tryd.ntmps19 200 ?_
  simp only [go_sem, Nat.reduceAdd, Nat.reduceMul, Nat.reduceSub, Nat.reduceBEq, Nat.reduceLT, Nat.reduceLeDiff, reduceIte, reduceCtorEq, Int.reduceToNat, Int.reduceLE, Int.reduceLT, Int.reduceNe, Int.reduceMul, Int.reduceAdd, Int.reduceSub, Int.reduceDiv, Int.reduceMod, Int.reduceEq, Int.reduceGE, Int.reduceGT, Int.reduceNeg, Int.reduceBEq, Int.reduceBNe, Nat.reduceEqDiff, strs_len, Tryd.underlying3, Tryd.underlying4, Tryd.underlying26]
  refine aret [2] rfl ⟨?_, rfl⟩
  simp [resV, Av.get]
  omega

theorem patch_pc (a : List (List UInt8)) (l : List Edt) (ha : a.length ≤ 3000) (hl : l.length ≤ 10000) (hm : mayL a true 0 l) (hp : (patch a 0 l).length ≤ 3000) :
    Pc Tryd.prog 8 [.fz 1 (strs a), .fz 3 (edsAV l)] (· = .tup [.fz 1 (strs (patch a 0 l)), .int .i64 0]) := by
  refine pc_intro (ct_intro Tryd.func8 rfl Tryd.ntmps8 hb8 (by simp) fun h ρ w => go (N := 89) Tryd.ntmps8 200 ?_)
  have la : decide (3000 < a.length) = false := by simpa using ha
  simp only [go_sem, Nat.reduceAdd, Nat.reduceMul, Nat.reduceSub, Nat.reduceBEq, Nat.reduceLT, Nat.reduceLeDiff, reduceIte, reduceCtorEq, Int.reduceToNat, Int.reduceLE, Int.reduceLT, Int.reduceNe, Int.reduceMul, Int.reduceAdd, Int.reduceSub, Int.reduceDiv, Int.reduceMod, Int.reduceEq, Int.reduceGE, Int.reduceGT, Int.reduceNeg, Int.reduceBEq, Int.reduceBNe, Nat.reduceEqDiff, ts9, Tryd.underlying3, Tryd.underlying4, Tryd.underlying26]
  refine pcall1 (large_pc a) rfl (N := 89) Tryd.ntmps8 rfl (go (N := 89) Tryd.ntmps8 200 ?_)
  simp only [go_sem, Nat.reduceAdd, Nat.reduceMul, Nat.reduceSub, Nat.reduceBEq, Nat.reduceLT, Nat.reduceLeDiff, reduceIte, reduceCtorEq, Int.reduceToNat, Int.reduceLE, Int.reduceLT, Int.reduceNe, Int.reduceMul, Int.reduceAdd, Int.reduceSub, Int.reduceDiv, Int.reduceMod, Int.reduceEq, Int.reduceGE, Int.reduceGT, Int.reduceNeg, Int.reduceBEq, Int.reduceBNe, Nat.reduceEqDiff, la, eds_len, ts9, Tryd.underlying3, Tryd.underlying4, Tryd.underlying26, Tryd.underlying29]
  refine AWp.shift (Shift.nilsl 6 1 rfl) ?_
  refine aloop (ι := Nat × Nat × List (List UInt8)) (fun x => l.length - x.1)
    (fun x => [(14, .int .i64 x.1), (13, .int .i64 l.length), (12, .fz 3 (edsAV l)), (7, .int .i64 x.2.1), (6, .sl 0 0 x.2.2.length x.2.2.length), (0, .fz 1 (strs a))])
    (fun x => [.arr 1 (strs x.2.2)])
    (fun x => x.1 ≤ l.length ∧ x.2.1 ≤ a.length ∧ mayL a (decide (x.1 = 0)) x.2.1 (l.drop x.1) ∧ (x.1 = 0 → x.2.1 = 0) ∧ x.2.2 ++ patch a x.2.1 (l.drop x.1) = patch a 0 l) (0, 0, []) ⟨by simp, by simp, by simpa using hm, by simp, by simp⟩ ?_ ?_
  · refine Shift.weak ?_
    simp [wk, go_sem, Nat.reduceAdd, Nat.reduceMul, Nat.reduceSub, Nat.reduceBEq, Nat.reduceLT, Nat.reduceLeDiff, reduceIte, reduceCtorEq, Int.reduceToNat, Int.reduceLE, Int.reduceLT, Int.reduceNe, Int.reduceMul, Int.reduceAdd, Int.reduceSub, Int.reduceDiv, Int.reduceMod, Int.reduceEq, Int.reduceGE, Int.reduceGT, Int.reduceNeg, Int.reduceBEq, Int.reduceBNe, Nat.reduceEqDiff]
  · rintro ⟨t, i, out⟩ ⟨k1, k2, k3, k4, k5⟩ J hJ
    simp only at k1 k2 k3 k4 k5 hJ ⊢
    refine go (N := 89) Tryd.ntmps8 300 ?_
    have hol : out.length ≤ 3000 := by
      have := congrArg List.length k5
      simp only [List.length_append] at this
      omega
    by_cases ht : (t : Int) < l.length
    · have htl : t < l.length := by omega
      rw [List.drop_eq_getElem_cons htl] at k3 k5
      have hg := eds_get (List.getElem?_eq_getElem htl)
      generalize l[t] = e at k3 k5 hg
      obtain ⟨m1, m2, m3, m4, m5⟩ := k3
      rw [patch] at k5
      have hal : e.add.length ≤ 3000 := by
        have := congrArg List.length k5
        simp only [List.length_append] at this
        omega
      have d1 : decide ((e.at' : Int) < 0) = false := by simp
      have d2 : decide ((e.at' : Int) > a.length) = false := by simp; omega
      have d3 : decide ((e.drop : Int) < 0) = false := by simp
      have d4 : decide ((e.drop : Int) > (a.length : Int) - e.at') = false := by simp; omega
      have hta : i ≤ e.at' := by
        rcases Nat.eq_zero_or_pos t with h | h
        · rw [k4 h]; omega
        · rcases m3 with h' | h'
          · simp at h'; omega
          · omega
      rcases Nat.eq_zero_or_pos t with ht0 | ht0
      · have d5 : decide ((t : Int) > 0) = false := by simp; omega
        by_cases hd0 : e.drop = 0
        · have d7 : ((e.drop : Int) == 0) = true := by simpa using hd0
          have d8 : ((e.add.length : Int) == 0) = false := by
            have : e.add ≠ [] := fun h => m4 ⟨hd0, h⟩
            simpa using this
          simp only [go_sem, Nat.reduceAdd, Nat.reduceMul, Nat.reduceSub, Nat.reduceBEq, Nat.reduceLT, Nat.reduceLeDiff, reduceIte, reduceCtorEq, Int.reduceToNat, Int.reduceLE, Int.reduceLT, Int.reduceNe, Int.reduceMul, Int.reduceAdd, Int.reduceSub, Int.reduceDiv, Int.reduceMod, Int.reduceEq, Int.reduceGE, Int.reduceGT, Int.reduceNeg, Int.reduceBEq, Int.reduceBNe, Nat.reduceEqDiff, ht, eds_len, strs_len, hg, d1, d2, d3, d4, d5, d7, d8, strs_cut, strs_app, ts3, ts9, za9, tb9, ts26, ts37, za37, Tryd.underlying3, Tryd.underlying4, Tryd.underlying26, Tryd.underlying29, Tryd.underlying37]
          rw [show (t : Int) + 1 = ((t + 1 : Nat) : Int) by omega, show (e.at' : Int) + e.drop = ((e.at' + e.drop : Nat) : Int) by omega]
          have hX : ((a.drop i).take (e.at' - i)).length ≤ 3000 := by simp; omega
          have k5' : (out ++ (a.drop i).take (e.at' - i) ++ e.add) ++ patch a (e.at' + e.drop) (l.drop (t + 1)) = patch a 0 l := by rw [← k5]; simp
          have hol' : out.length + ((a.drop i).take (e.at' - i)).length + e.add.length = (out ++ (a.drop i).take (e.at' - i) ++ e.add).length := by rw [List.length_append, List.length_append]
          rw [hol']
          repeat refine And.intro (by first | omega | rfl | exact .inl trivial) ?_
          refine ainv (hJ (t + 1, e.at' + e.drop, out ++ (a.drop i).take (e.at' - i) ++ e.add) ⟨by simp only; omega, by simp only; omega, by simpa using m5, by simp, k5'⟩ (by simp only; omega)) (Shift.only 0 0 (Nat.le_refl _) (Nat.le_refl _) rfl (by simp) (strs_frz _) rfl ?_)
          simp [wkg, okg, go_sem, Nat.reduceAdd, Nat.reduceMul, Nat.reduceSub, Nat.reduceBEq, Nat.reduceLT, Nat.reduceLeDiff, reduceIte, reduceCtorEq, Int.reduceToNat, Int.reduceLE, Int.reduceLT, Int.reduceNe, Int.reduceMul, Int.reduceAdd, Int.reduceSub, Int.reduceDiv, Int.reduceMod, Int.reduceEq, Int.reduceGE, Int.reduceGT, Int.reduceNeg, Int.reduceBEq, Int.reduceBNe, Nat.reduceEqDiff, Av.frozen]
        · have d7 : ((e.drop : Int) == 0) = false := by simpa using hd0
          simp only [go_sem, Nat.reduceAdd, Nat.reduceMul, Nat.reduceSub, Nat.reduceBEq, Nat.reduceLT, Nat.reduceLeDiff, reduceIte, reduceCtorEq, Int.reduceToNat, Int.reduceLE, Int.reduceLT, Int.reduceNe, Int.reduceMul, Int.reduceAdd, Int.reduceSub, Int.reduceDiv, Int.reduceMod, Int.reduceEq, Int.reduceGE, Int.reduceGT, Int.reduceNeg, Int.reduceBEq, Int.reduceBNe, Nat.reduceEqDiff, ht, eds_len, strs_len, hg, d1, d2, d3, d4, d5, d7, strs_cut, strs_app, ts3, ts9, za9, tb9, ts26, ts37, za37, Tryd.underlying3, Tryd.underlying4, Tryd.underlying26, Tryd.underlying29, Tryd.underlying37]
          rw [show (t : Int) + 1 = ((t + 1 : Nat) : Int) by omega, show (e.at' : Int) + e.drop = ((e.at' + e.drop : Nat) : Int) by omega]
          have hX : ((a.drop i).take (e.at' - i)).length ≤ 3000 := by simp; omega
          have k5' : (out ++ (a.drop i).take (e.at' - i) ++ e.add) ++ patch a (e.at' + e.drop) (l.drop (t + 1)) = patch a 0 l := by rw [← k5]; simp
          have hol' : out.length + ((a.drop i).take (e.at' - i)).length + e.add.length = (out ++ (a.drop i).take (e.at' - i) ++ e.add).length := by rw [List.length_append, List.length_append]
          rw [hol']
          repeat refine And.intro (by first | omega | rfl | exact .inl trivial) ?_
          refine ainv (hJ (t + 1, e.at' + e.drop, out ++ (a.drop i).take (e.at' - i) ++ e.add) ⟨by simp only; omega, by simp only; omega, by simpa using m5, by simp, k5'⟩ (by simp only; omega)) (Shift.only 0 0 (Nat.le_refl _) (Nat.le_refl _) rfl (by simp) (strs_frz _) rfl ?_)
          simp [wkg, okg, go_sem, Nat.reduceAdd, Nat.reduceMul, Nat.reduceSub, Nat.reduceBEq, Nat.reduceLT, Nat.reduceLeDiff, reduceIte, reduceCtorEq, Int.reduceToNat, Int.reduceLE, Int.reduceLT, Int.reduceNe, Int.reduceMul, Int.reduceAdd, Int.reduceSub, Int.reduceDiv, Int.reduceMod, Int.reduceEq, Int.reduceGE, Int.reduceGT, Int.reduceNeg, Int.reduceBEq, Int.reduceBNe, Nat.reduceEqDiff, Av.frozen]
      · have d5 : decide ((t : Int) > 0) = true := by simp; omega
        have d6 : decide ((e.at' : Int) ≤ i) = false := by
          rcases m3 with h' | h'
          · simp at h'; omega
          · simp; omega
        by_cases hd0 : e.drop = 0
        · have d7 : ((e.drop : Int) == 0) = true := by simpa using hd0
          have d8 : ((e.add.length : Int) == 0) = false := by
            have : e.add ≠ [] := fun h => m4 ⟨hd0, h⟩
            simpa using this
          simp only [go_sem, Nat.reduceAdd, Nat.reduceMul, Nat.reduceSub, Nat.reduceBEq, Nat.reduceLT, Nat.reduceLeDiff, reduceIte, reduceCtorEq, Int.reduceToNat, Int.reduceLE, Int.reduceLT, Int.reduceNe, Int.reduceMul, Int.reduceAdd, Int.reduceSub, Int.reduceDiv, Int.reduceMod, Int.reduceEq, Int.reduceGE, Int.reduceGT, Int.reduceNeg, Int.reduceBEq, Int.reduceBNe, Nat.reduceEqDiff, ht, eds_len, strs_len, hg, d1, d2, d3, d4, d5, d6, d7, d8, strs_cut, strs_app, ts3, ts9, za9, tb9, ts26, ts37, za37, Tryd.underlying3, Tryd.underlying4, Tryd.underlying26, Tryd.underlying29, Tryd.underlying37]
          rw [show (t : Int) + 1 = ((t + 1 : Nat) : Int) by omega, show (e.at' : Int) + e.drop = ((e.at' + e.drop : Nat) : Int) by omega]
          have hX : ((a.drop i).take (e.at' - i)).length ≤ 3000 := by simp; omega
          have k5' : (out ++ (a.drop i).take (e.at' - i) ++ e.add) ++ patch a (e.at' + e.drop) (l.drop (t + 1)) = patch a 0 l := by rw [← k5]; simp
          have hol' : out.length + ((a.drop i).take (e.at' - i)).length + e.add.length = (out ++ (a.drop i).take (e.at' - i) ++ e.add).length := by rw [List.length_append, List.length_append]
          rw [hol']
          repeat refine And.intro (by first | omega | rfl | exact .inl trivial) ?_
          refine ainv (hJ (t + 1, e.at' + e.drop, out ++ (a.drop i).take (e.at' - i) ++ e.add) ⟨by simp only; omega, by simp only; omega, by simpa using m5, by simp, k5'⟩ (by simp only; omega)) (Shift.only 0 0 (Nat.le_refl _) (Nat.le_refl _) rfl (by simp) (strs_frz _) rfl ?_)
          simp [wkg, okg, go_sem, Nat.reduceAdd, Nat.reduceMul, Nat.reduceSub, Nat.reduceBEq, Nat.reduceLT, Nat.reduceLeDiff, reduceIte, reduceCtorEq, Int.reduceToNat, Int.reduceLE, Int.reduceLT, Int.reduceNe, Int.reduceMul, Int.reduceAdd, Int.reduceSub, Int.reduceDiv, Int.reduceMod, Int.reduceEq, Int.reduceGE, Int.reduceGT, Int.reduceNeg, Int.reduceBEq, Int.reduceBNe, Nat.reduceEqDiff, Av.frozen]
        · have d7 : ((e.drop : Int) == 0) = false := by simpa using hd0
          simp only [go_sem, Nat.reduceAdd, Nat.reduceMul, Nat.reduceSub, Nat.reduceBEq, Nat.reduceLT, Nat.reduceLeDiff, reduceIte, reduceCtorEq, Int.reduceToNat, Int.reduceLE, Int.reduceLT, Int.reduceNe, Int.reduceMul, Int.reduceAdd, Int.reduceSub, Int.reduceDiv, Int.reduceMod, Int.reduceEq, Int.reduceGE, Int.reduceGT, Int.reduceNeg, Int.reduceBEq, Int.reduceBNe, Nat.reduceEqDiff, ht, eds_len, strs_len, hg, d1, d2, d3, d4, d5, d6, d7, strs_cut, strs_app, ts3, ts9, za9, tb9, ts26, ts37, za37, Tryd.underlying3, Tryd.underlying4, Tryd.underlying26, Tryd.underlying29, Tryd.underlying37]
          rw [show (t : Int) + 1 = ((t + 1 : Nat) : Int) by omega, show (e.at' : Int) + e.drop = ((e.at' + e.drop : Nat) : Int) by omega]
          have hX : ((a.drop i).take (e.at' - i)).length ≤ 3000 := by simp; omega
          have k5' : (out ++ (a.drop i).take (e.at' - i) ++ e.add) ++ patch a (e.at' + e.drop) (l.drop (t + 1)) = patch a 0 l := by rw [← k5]; simp
          have hol' : out.length + ((a.drop i).take (e.at' - i)).length + e.add.length = (out ++ (a.drop i).take (e.at' - i) ++ e.add).length := by rw [List.length_append, List.length_append]
          rw [hol']
          repeat refine And.intro (by first | omega | rfl | exact .inl trivial) ?_
          refine ainv (hJ (t + 1, e.at' + e.drop, out ++ (a.drop i).take (e.at' - i) ++ e.add) ⟨by simp only; omega, by simp only; omega, by simpa using m5, by simp, k5'⟩ (by simp only; omega)) (Shift.only 0 0 (Nat.le_refl _) (Nat.le_refl _) rfl (by simp) (strs_frz _) rfl ?_)
          simp [wkg, okg, go_sem, Nat.reduceAdd, Nat.reduceMul, Nat.reduceSub, Nat.reduceBEq, Nat.reduceLT, Nat.reduceLeDiff, reduceIte, reduceCtorEq, Int.reduceToNat, Int.reduceLE, Int.reduceLT, Int.reduceNe, Int.reduceMul, Int.reduceAdd, Int.reduceSub, Int.reduceDiv, Int.reduceMod, Int.reduceEq, Int.reduceGE, Int.reduceGT, Int.reduceNeg, Int.reduceBEq, Int.reduceBNe, Nat.reduceEqDiff, Av.frozen]
    · simp only [go_sem, Nat.reduceAdd, Nat.reduceMul, Nat.reduceSub, Nat.reduceBEq, Nat.reduceLT, Nat.reduceLeDiff, reduceIte, reduceCtorEq, Int.reduceToNat, Int.reduceLE, Int.reduceLT, Int.reduceNe, Int.reduceMul, Int.reduceAdd, Int.reduceSub, Int.reduceDiv, Int.reduceMod, Int.reduceEq, Int.reduceGE, Int.reduceGT, Int.reduceNeg, Int.reduceBEq, Int.reduceBNe, Nat.reduceEqDiff, ht, strs_len, eds_len, strs_drop, strs_app, ts3, ts9, za9, tb9, ts26, ts37, za37, Tryd.underlying3, Tryd.underlying4, Tryd.underlying9, Tryd.underlying26, Tryd.underlying29, Tryd.underlying37]
      have k6 : t = l.length := by omega
      subst k6
      rw [List.drop_length, patch] at k5
      have hpl := congrArg List.length k5
      rw [List.length_append] at hpl
      have lo : decide (3000 < (patch a 0 l).length) = false := by simpa using hp
      have hol' : out.length + (a.drop i).length = (patch a 0 l).length := hpl
      rw [hol', k5]
      repeat refine And.intro (by first | omega | rfl | exact .inl trivial) ?_
      refine acall (large_own (patch a 0 l)) (N := 89) Tryd.ntmps8 rfl ?_
      rintro _ _ ⟨rfl, rfl⟩
      refine go (N := 89) Tryd.ntmps8 300 ?_
      simp only [go_sem, Nat.reduceAdd, Nat.reduceMul, Nat.reduceSub, Nat.reduceBEq, Nat.reduceLT, Nat.reduceLeDiff, reduceIte, reduceCtorEq, Int.reduceToNat, Int.reduceLE, Int.reduceLT, Int.reduceNe, Int.reduceMul, Int.reduceAdd, Int.reduceSub, Int.reduceDiv, Int.reduceMod, Int.reduceEq, Int.reduceGE, Int.reduceGT, Int.reduceNeg, Int.reduceBEq, Int.reduceBNe, Nat.reduceEqDiff, lo, Tryd.underlying3, Tryd.underlying4, Tryd.underlying9, Tryd.underlying26, Tryd.underlying29, Tryd.underlying37]
      refine ARet.shift (Shift.freeze 4 (id := 0) rfl rfl (by simp) (Nat.le_refl _) (strs_frz _)) (aret [4, 5] rfl ⟨?_, rfl⟩)
      simp [resV, Av.get, Av.put, List.take_of_length_le]
end Go.Proofs.YtpjbbpilgfihbaaDoor
