/- The stream of numbers: one contract each. Own work of this seat. -/
import Derived.Test.YtpjbbpilgfihbaaDoorRows
import Derived.Test.YtpjbbpilgfihbaaDoorAvT
namespace Go.Proofs.YtpjbbpilgfihbaaDoor
open Go Go.Av Go.RowKit
attribute [local go_sem ↓] br_true br_false dbr_true dbr_false
attribute [local go_sem] run cont br dbr dx dxc dgrd dyld dres dcall calm fieldPlace? allHas step1 opN grdN resN condN exitN stopN exitIt dOk xop xbin xint xarith xstr xbool xpick xnot xneg xextract xpart xpartOk xindex xfieldF fieldD xnew xbox xalloc xfieldAddr xptrAddIf xindexAddr xloadC xload putCells reElem xstoreB xstore xconv xtext xlen xlen2 xcall xfill xbuild cut rep xbuildSlice xbuildSliceD isRow elemD isU8 ev evs evp Go.Av.put Go.Av.get ofConst yldD yldV args0 cellsOf cond_true cond_false decide_true decide_false decide_eq_true_eq decide_eq_false_iff_not List.getElem?_cons_zero List.getElem?_cons_succ List.getElem?_nil List.getD_cons_zero List.getD_cons_succ List.getD_nil List.set_cons_zero List.set_cons_succ List.length_cons List.length_nil List.cons_append List.nil_append List.append_nil List.all_cons List.all_nil List.map_cons List.map_nil List.take_succ_cons List.take_zero List.drop_succ_cons List.drop_zero Bool.and_true Bool.true_and Bool.and_self Bool.and_false Bool.false_and one Go.Av.frozen beq_self_eq_true true_and and_true forall_const false_implies implies_true and_self Option.map_some Option.map_none Nat.zero_add Nat.add_zero Nat.zero_mul Nat.mul_one Nat.one_mul Int.toNat_zero ne_eq not_false_eq_true not_true_eq_false Bool.true_eq_false Bool.false_eq_true List.toList_toArray inr Go.Av.byteOf isByte decide_eq_decide Bool.not_true Bool.not_false Bool.not_eq_true' Bool.or_true Bool.true_or Bool.or_false Bool.false_or ge_iff_le gt_iff_lt and_assoc Bool.decide_eq_true beq_iff_eq beq_eq_false_iff_ne bne_iff_ne bne_self_eq_false if_true if_false Bool.and_eq_true Bool.or_eq_true Bool.and_eq_false_imp Bool.or_eq_false_iff Bool.not_eq_false' has Option.isSome_some Option.isSome_none Int.toNat_natCast Int.cast_ofNat_Int List.length_append xapp2 xapp xappS xappD xappB notInt srcOf srcB byteAV splice' xcut xcutS xcutF xcutB xcutN xcut0 cutL loOf hiOf evo xmake zelem xmax xcopy2 xcopyS xcopyB xnil xcut3 ixOf xclear2 xclearB List.getElem?_toArray xbin2 xnileq xempty xmkmap xmput xmputB xmputF isKey keyEq mfind xbin3 xeqs xeqop eqFs bothB leafEq
set_option maxRecDepth 100000
set_option linter.unusedSimpArgs false
set_option linter.unusedVariables false

theorem hb13 : hasBody Tryd.prog 13 = true := by kernel_rfl
theorem hb14 : hasBody Tryd.prog 14 = true := by kernel_rfl
theorem hb16 : hasBody Tryd.prog 16 = true := by kernel_rfl
theorem hb23 : hasBody Tryd.prog 23 = true := by kernel_rfl
theorem mixed : Tryd.prog.follows .mixedOrders = true := by kernel_rfl
theorem ts3 : tsize Tryd.prog 3 = 1 := by kernel_rfl
theorem ts9 : tsize Tryd.prog 9 = 1 := by kernel_rfl
theorem ts22 : tsize Tryd.prog 22 = 1 := by kernel_rfl

theorem below_pc (x n : Int) (h1 : 1 ≤ n) (h2 : n ≤ 9223372036854775807) :
    Pc Tryd.prog 23 [.int .i64 x, .int .i64 n] (· = .int .i64 (x % n)) := by
  refine pc_intro (ct_intro Tryd.func23 rfl Tryd.ntmps23 hb23 (by simp) fun h ρ w => goW (N := 16) Tryd.ntmps23 200 ?_)
  have hm : x.tmod n = if 0 ≤ x ∨ n ∣ x then x % n else x % n - n.natAbs := by
    rw [Int.tmod_eq_emod]; split <;> simp
  have hlt := Int.emod_lt_of_pos x (show 0 < n by omega)
  have hge := Int.emod_nonneg x (show n ≠ 0 by omega)
  have hna : (n.natAbs : Int) = n := by omega
  rw [hna] at hm
  simp only [go_sem, Nat.reduceAdd, Nat.reduceMul, Nat.reduceSub, Nat.reduceBEq, Nat.reduceLT, Nat.reduceLeDiff, reduceIte, reduceCtorEq, Int.reduceToNat, Int.reduceLE, Int.reduceLT, Int.reduceNe, Int.reduceMul, Int.reduceAdd, Int.reduceSub, Int.reduceDiv, Int.reduceMod, Int.reduceEq, Int.reduceGE, Int.reduceGT, Int.reduceNeg, Int.reduceBEq, Int.reduceBNe, Nat.reduceEqDiff, xint, Tryd.underlying3]
  refine ⟨fun _ => by omega, fun _ => ⟨by omega, fun h3 => ?_, fun h3 => ?_⟩⟩
  · refine aret [4] rfl ⟨?_, rfl⟩
    show AV.int .i64 _ = _
    rw [hm] at h3 ⊢
    split at h3
    · omega
    · rw [if_neg (by assumption), show x % n - n + n = x % n by omega]
      exact congrArg _ (IntWalk.i64_in _ ⟨by omega, by omega⟩)
  · refine aret [4] rfl ⟨?_, rfl⟩
    show AV.int .i64 _ = _
    rw [hm] at h3 ⊢
    split at h3
    · rw [if_pos (by assumption)]
    · omega

/-- the stream's fields -/
def str (L : List Int) (at' : Int) : AV := .agg [.fz 1 (L.map (.int .i64)), .int .i64 at']

theorem next_mc (L : List Int) (k n : Int) (h1 : 1 ≤ n) (h2 : n ≤ 9223372036854775807) (h3 : 0 ≤ k) (h4 : k ≤ 1000000) :
    Mc Tryd.prog 13 2 (str L k) [.int .i64 n] (fun r s => (∃ v, r = .int .i64 v ∧ 0 ≤ v ∧ v < n) ∧ s = str L (k + 1)) := by
  refine ct_intro Tryd.func13 rfl Tryd.ntmps13 hb13 (by simp) fun h ρ w => goW (N := 64) Tryd.ntmps13 200 ?_
  have hw : IntKind.i64.wrap (k + 1) = k + 1 := IntWalk.i64_in _ ⟨by omega, by omega⟩
  have hk : k + 1 - 1 = k := by omega
  have hwk : IntKind.i64.wrap k = k := IntWalk.i64_in _ ⟨by omega, by omega⟩
  have fin : ∀ x : Int, 0 ≤ x % n ∧ x % n < n := fun x => ⟨Int.emod_nonneg x (by omega), Int.emod_lt_of_pos x (by omega)⟩
  simp only [go_sem, Nat.reduceAdd, Nat.reduceMul, Nat.reduceSub, Nat.reduceBEq, Nat.reduceLT, Nat.reduceLeDiff, reduceIte, reduceCtorEq, Int.reduceToNat, Int.reduceLE, Int.reduceLT, Int.reduceNe, Int.reduceMul, Int.reduceAdd, Int.reduceSub, Int.reduceDiv, Int.reduceMod, Int.reduceEq, Int.reduceGE, Int.reduceGT, Int.reduceNeg, Int.reduceBEq, Int.reduceBNe, Nat.reduceEqDiff, xint, str, Tryd.underlying3, Tryd.underlying25, Tryd.underlying22, ts3, ts22, hw]
  refine ⟨fun h5 => ?_, fun h5 => ?_⟩
  · refine pcall1 (below_pc _ n h1 h2) rfl (N := 64) Tryd.ntmps13 rfl (goW (N := 64) Tryd.ntmps13 200 ?_)
    simp only [go_sem, Nat.reduceAdd, Nat.reduceMul, Nat.reduceSub, Nat.reduceBEq, Nat.reduceLT, Nat.reduceLeDiff, reduceIte, reduceCtorEq, Int.reduceToNat, Int.reduceLE, Int.reduceLT, Int.reduceNe, Int.reduceMul, Int.reduceAdd, Int.reduceSub, Int.reduceDiv, Int.reduceMod, Int.reduceEq, Int.reduceGE, Int.reduceGT, Int.reduceNeg, Int.reduceBEq, Int.reduceBNe, Nat.reduceEqDiff, xint]
    exact aret [4] rfl ⟨_, _, rfl, ⟨_, rfl, fin _⟩, rfl, rfl, rfl⟩
  · refine adraw [] mixed (by decide) (N := 64) Tryd.ntmps13 (by decide) 100 ?_
    simp only [go_sem, Nat.reduceAdd, Nat.reduceMul, Nat.reduceSub, Nat.reduceBEq, Nat.reduceLT, Nat.reduceLeDiff, reduceIte, reduceCtorEq, Int.reduceToNat, Int.reduceLE, Int.reduceLT, Int.reduceNe, Int.reduceMul, Int.reduceAdd, Int.reduceSub, Int.reduceDiv, Int.reduceMod, Int.reduceEq, Int.reduceGE, Int.reduceGT, Int.reduceNeg, Int.reduceBEq, Int.reduceBNe, Nat.reduceEqDiff, xint, Tryd.underlying3, Tryd.underlying25, Tryd.underlying22, ts3, ts22, hw, hk, hwk]
    have hm0 : 0 < ((List.map (AV.int .i64) L).length : Int) := by omega
    have hmL : ((List.map (AV.int .i64) L).length : Int) = L.length := by simp
    generalize hM : ((List.map (AV.int .i64) L).length : Int) = M at *
    have d1 : 0 ≤ k / M := Int.ediv_nonneg h3 (by omega)
    have d2 : k / M ≤ k := Int.ediv_le_self _ h3
    have d3 : 0 ≤ k % M := Int.emod_nonneg k (by omega)
    have d4 : k % M < M := Int.emod_lt_of_pos k hm0
    have d5 : k % M ≤ k := by
      have q1 := Int.mul_ediv_add_emod k M
      have q2 : 0 ≤ M * (k / M) := Int.mul_nonneg (by omega) d1
      omega
    have d6 : 0 ≤ k / M * (7919 + k % M) := Int.mul_nonneg d1 (by omega)
    have d7 : k / M * (7919 + k % M) ≤ 1000000 * 1007919 := Int.mul_le_mul (by omega) (by omega) (by omega) (by omega)
    refine ⟨by omega, by omega, by omega, by omega, ?_⟩
    refine goW (N := 64) Tryd.ntmps13 200 ?_
    simp only [go_sem, Nat.reduceAdd, Nat.reduceMul, Nat.reduceSub, Nat.reduceBEq, Nat.reduceLT, Nat.reduceLeDiff, reduceIte, reduceCtorEq, Int.reduceToNat, Int.reduceLE, Int.reduceLT, Int.reduceNe, Int.reduceMul, Int.reduceAdd, Int.reduceSub, Int.reduceDiv, Int.reduceMod, Int.reduceEq, Int.reduceGE, Int.reduceGT, Int.reduceNeg, Int.reduceBEq, Int.reduceBNe, Nat.reduceEqDiff, xint, Tryd.underlying3, Tryd.underlying25, Tryd.underlying22, ts3, ts22, hw, hk, hwk, hM]
    refine adraw [] mixed (by decide) (N := 64) Tryd.ntmps13 (by decide) 100 ?_
    simp only [go_sem, Nat.reduceAdd, Nat.reduceMul, Nat.reduceSub, Nat.reduceBEq, Nat.reduceLT, Nat.reduceLeDiff, reduceIte, reduceCtorEq, Int.reduceToNat, Int.reduceLE, Int.reduceLT, Int.reduceNe, Int.reduceMul, Int.reduceAdd, Int.reduceSub, Int.reduceDiv, Int.reduceMod, Int.reduceEq, Int.reduceGE, Int.reduceGT, Int.reduceNeg, Int.reduceBEq, Int.reduceBNe, Nat.reduceEqDiff, xint, Tryd.underlying3, Tryd.underlying25, Tryd.underlying22, ts3, ts22, hw, hk, hwk, hM]
    refine ⟨by omega, by omega, by omega, by omega, by omega, by omega, ?_⟩
    have hx : ∃ x, (List.map (AV.int .i64) L).getD (k % M).toNat .any = .int .i64 x := by
      have : (k % M).toNat < L.length := by omega
      exact ⟨L[(k % M).toNat], by simp [List.getD, this]⟩
    obtain ⟨x, hx⟩ := hx
    have f1 : 0 ≤ x % 1073741824 := Int.emod_nonneg x (by omega)
    have f2 : x % 1073741824 < 1073741824 := Int.emod_lt_of_pos x (by omega)
    refine goW (N := 64) Tryd.ntmps13 200 ?_
    simp only [go_sem, Nat.reduceAdd, Nat.reduceMul, Nat.reduceSub, Nat.reduceBEq, Nat.reduceLT, Nat.reduceLeDiff, reduceIte, reduceCtorEq, Int.reduceToNat, Int.reduceLE, Int.reduceLT, Int.reduceNe, Int.reduceMul, Int.reduceAdd, Int.reduceSub, Int.reduceDiv, Int.reduceMod, Int.reduceEq, Int.reduceGE, Int.reduceGT, Int.reduceNeg, Int.reduceBEq, Int.reduceBNe, Nat.reduceEqDiff, xint, Tryd.underlying3, Tryd.underlying25, Tryd.underlying22, ts3, ts22, hw, hk, hwk, hM, hx]
    refine ⟨by omega, by omega, by simp; omega, ?_⟩
    refine pcall1 (below_pc _ _ (by omega) (by omega)) rfl (N := 64) Tryd.ntmps13 rfl (goW (N := 64) Tryd.ntmps13 200 ?_)
    simp only [go_sem, Nat.reduceAdd, Nat.reduceMul, Nat.reduceSub, Nat.reduceBEq, Nat.reduceLT, Nat.reduceLeDiff, reduceIte, reduceCtorEq, Int.reduceToNat, Int.reduceLE, Int.reduceLT, Int.reduceNe, Int.reduceMul, Int.reduceAdd, Int.reduceSub, Int.reduceDiv, Int.reduceMod, Int.reduceEq, Int.reduceGE, Int.reduceGT, Int.reduceNeg, Int.reduceBEq, Int.reduceBNe, Nat.reduceEqDiff, xint, Tryd.underlying3]
    refine pcall1 (below_pc _ n h1 h2) rfl (N := 64) Tryd.ntmps13 rfl (goW (N := 64) Tryd.ntmps13 200 ?_)
    simp only [go_sem, Nat.reduceAdd, Nat.reduceMul, Nat.reduceSub, Nat.reduceBEq, Nat.reduceLT, Nat.reduceLeDiff, reduceIte, reduceCtorEq, Int.reduceToNat, Int.reduceLE, Int.reduceLT, Int.reduceNe, Int.reduceMul, Int.reduceAdd, Int.reduceSub, Int.reduceDiv, Int.reduceMod, Int.reduceEq, Int.reduceGE, Int.reduceGT, Int.reduceNeg, Int.reduceBEq, Int.reduceBNe, Nat.reduceEqDiff, xint]
    exact aret [4] rfl ⟨_, _, rfl, ⟨_, rfl, fin _⟩, rfl, rfl, rfl⟩

theorem one_mc (L : List Int) (k : Int) (ls : List (List UInt8)) (h1 : 1 ≤ ls.length) (h2 : ls.length ≤ 1000) (h3 : 0 ≤ k) (h4 : k ≤ 1000000) :
    Mc Tryd.prog 14 2 (str L k) [.fz 1 (ls.map .str)] (fun r s => (∃ x ∈ ls, r = .str x) ∧ s = str L (k + 1)) := by
  refine ct_intro Tryd.func14 rfl Tryd.ntmps14 hb14 (by simp) fun h ρ w => goW (N := 12) Tryd.ntmps14 200 ?_
  simp only [go_sem, Nat.reduceAdd, Nat.reduceMul, Nat.reduceSub, Nat.reduceBEq, Nat.reduceLT, Nat.reduceLeDiff, reduceIte, reduceCtorEq, Int.reduceToNat, Int.reduceLE, Int.reduceLT, Int.reduceNe, Int.reduceMul, Int.reduceAdd, Int.reduceSub, Int.reduceDiv, Int.reduceMod, Int.reduceEq, Int.reduceGE, Int.reduceGT, Int.reduceNeg, Int.reduceBEq, Int.reduceBNe, Nat.reduceEqDiff, xint, Tryd.underlying3, Tryd.underlying25, Tryd.underlying26, Tryd.underlying9, ts3, ts9]
  have hlen : ((List.map AV.str ls).length : Int) = ls.length := by simp
  refine mcall (next_mc L k _ (by omega) (by omega) h3 h4) rfl rfl (id := 0) rfl (N := 12) Tryd.ntmps14 rfl ?_
  rintro _ _ ⟨⟨v, rfl, hv0, hv1⟩, rfl⟩
  refine goW (N := 12) Tryd.ntmps14 200 ?_
  have hv : v.toNat < ls.length := by omega
  have hx : (List.map AV.str ls).getD v.toNat .any = .str ls[v.toNat] := by simp [List.getD, hv]
  simp only [go_sem, Nat.reduceAdd, Nat.reduceMul, Nat.reduceSub, Nat.reduceBEq, Nat.reduceLT, Nat.reduceLeDiff, reduceIte, reduceCtorEq, Int.reduceToNat, Int.reduceLE, Int.reduceLT, Int.reduceNe, Int.reduceMul, Int.reduceAdd, Int.reduceSub, Int.reduceDiv, Int.reduceMod, Int.reduceEq, Int.reduceGE, Int.reduceGT, Int.reduceNeg, Int.reduceBEq, Int.reduceBNe, Nat.reduceEqDiff, xint, Tryd.underlying3, Tryd.underlying25, Tryd.underlying26, Tryd.underlying9, ts3, ts9, hx]
  refine ⟨by omega, by omega, by simpa using hv, ?_⟩
  exact aret [4] rfl ⟨_, _, rfl, ⟨_, List.getElem_mem hv, rfl⟩, rfl, rfl, rfl⟩
end Go.Proofs.YtpjbbpilgfihbaaDoor
