/- The stream of numbers: one contract each. Own work of this seat. -/
import Derived.Test.YtpjbbpilgfihbaaGreatDoorE4
import Derived.Test.YtpjbbpilgfihbaaGreatDoorE3
import Derived.Test.YtpjbbpilgfihbaaGreatDoorE5
import Derived.Test.YtpjbbpilgfihbaaGreatDoorE6
namespace Go.Proofs.YtpjbbpilgfihbaaGreatDoor
open Go Go.Av Go.RowKit
attribute [local go_sem ↓] br_true br_false dbr_true dbr_false dbri_true dbri_false dbrg_true dbrg_false
attribute [local go_sem] run cont br dbr dx dxc dgrd dyld dres dcall calm fieldPlace? allHas step1 opN grdN resN condN exitN stopN exitIt dOk xop xbin xint xarith xstr xbool xpick xnot xneg xextract xpart xpartOk xindex xfieldF fieldD xnew xbox xalloc xfieldAddr xptrAddIf xindexAddr xloadC xload putCells reElem xstoreB xstore xconv xtext xlen xlen2 xcall xfill xbuild cut rep xbuildSlice xbuildSliceD isRow elemD isU8 ev evs evp Go.Av.put Go.Av.get ofConst yldD yldV notBool_undef args0 cellsOf cond_true cond_false decide_true decide_false decide_eq_true_eq decide_eq_false_iff_not List.getElem?_cons_zero List.getElem?_cons_succ List.getElem?_nil List.getD_cons_zero List.getD_cons_succ List.getD_nil List.set_cons_zero List.set_cons_succ List.length_cons List.length_nil List.cons_append List.nil_append List.append_nil List.all_cons List.all_nil List.map_cons List.map_nil List.take_succ_cons List.take_zero List.drop_succ_cons List.drop_zero Bool.and_true Bool.true_and Bool.and_self Bool.and_false Bool.false_and one Go.Av.frozen beq_self_eq_true true_and and_true forall_const false_implies implies_true and_self Option.map_some Option.map_none Nat.zero_add Nat.add_zero Nat.zero_mul Nat.mul_one Nat.one_mul Int.toNat_zero ne_eq not_false_eq_true not_true_eq_false Bool.true_eq_false Bool.false_eq_true List.toList_toArray inr Go.Av.byteOf isByte decide_eq_decide Bool.not_true Bool.not_false Bool.not_eq_true' Bool.or_true Bool.true_or Bool.or_false Bool.false_or ge_iff_le gt_iff_lt and_assoc Bool.decide_eq_true beq_iff_eq beq_eq_false_iff_ne bne_iff_ne bne_self_eq_false if_true if_false Bool.and_eq_true Bool.or_eq_true Bool.and_eq_false_imp Bool.or_eq_false_iff Bool.not_eq_false' has Option.isSome_some Option.isSome_none Int.toNat_natCast Int.cast_ofNat_Int List.length_append xapp2 xapp xappS xappD xappB notInt srcOf srcB byteAV splice' xcut xcutS xcutF xcutB xcutN xcut0 cutL loOf hiOf evo xmake zelem xmax xcopy2 xcopyS xcopyB xnil xcut3 ixOf xclear2 xclearB List.getElem?_toArray xbin2 xnileq xempty xmkmap xmput xmputB xmputF isKey keyEq mfind xbin3 xeqs xeqop eqFs bothB leafEq xlook xlookB xlookF xbytes beq_c_n beq_n_c bne_c_n bne_n_c one_nil dxi dxic dbri rix dck reader blind opOk refOk Go.Op.operands Go.Call.operands List.contains_cons List.contains_nil dxg dxgc dbrg pck putD List.lookup_cons List.lookup_nil ts2 tb2 zl2 za2 Tryz.underlying2 ts3 tb3 zl3 za3 Tryz.underlying3 ts4 tb4 zl4 za4 Tryz.underlying4 ts5 tb5 zl5 za5 Tryz.underlying5 ts6 tb6 zl6 za6 Tryz.underlying6 ts7 tb7 za7 Tryz.underlying7 ts8 tb8 za8 Tryz.underlying8 ts9 tb9 zl9 za9 Tryz.underlying9 ts10 tb10 zl10 za10 Tryz.underlying10 ts11 tb11 zl11 za11 Tryz.underlying11 ts12 tb12 zl12 za12 Tryz.underlying12 ts13 tb13 za13 Tryz.underlying13 ts14 tb14 za14 Tryz.underlying14 ts18 tb18 za18 Tryz.underlying18 ts19 tb19 za19 Tryz.underlying19 ts21 tb21 zl21 za21 Tryz.underlying21 ts22 tb22 zl22 za22 Tryz.underlying22 ts24 tb24 za24 Tryz.underlying24 ts25 tb25 za25 Tryz.underlying25 ts27 tb27 zl27 za27 Tryz.underlying27 ts35 tb35 zl35 za35 Tryz.underlying35 ts36 tb36 za36 Tryz.underlying36 ts37 tb37 za37 Tryz.underlying37 ts39 tb39 zl39 za39 Tryz.underlying39 ts41 tb41 za41 Tryz.underlying41 ts42 tb42 za42 Tryz.underlying42 ts63 tb63 zl63 za63 Tryz.underlying63 ts64 tb64 zl64 za64 Tryz.underlying64 ts65 tb65 za65 Tryz.underlying65 ts66 tb66 za66 Tryz.underlying66 ts67 tb67 zl67 za67 Tryz.underlying67 ts69 tb69 za69 Tryz.underlying69 ts70 tb70 za70 Tryz.underlying70 ts73 tb73 za73 Tryz.underlying73 ts74 tb74 za74 Tryz.underlying74 ts75 tb75 zl75 za75 Tryz.underlying75 ts82 tb82 zl82 za82 Tryz.underlying82 ts96 tb96 za96 Tryz.underlying96 ts97 tb97 za97 Tryz.underlying97 ts103 tb103 za103 Tryz.underlying103 ts104 tb104 za104 Tryz.underlying104 ts109 tb109 zl109 za109 Tryz.underlying109 ts116 tb116 zl116 za116 Tryz.underlying116 ts117 tb117 za117 Tryz.underlying117 ts118 tb118 za118 Tryz.underlying118 ts120 tb120 zl120 za120 Tryz.underlying120 ts124 tb124 zl124 za124 Tryz.underlying124 ts126 tb126 za126 Tryz.underlying126 ts128 tb128 zl128 za128 Tryz.underlying128 ts130 tb130 za130 Tryz.underlying130 ts131 tb131 za131 Tryz.underlying131 ts153 tb153 zl153 za153 Tryz.underlying153 ts167 tb167 zl167 za167 Tryz.underlying167 ts171 tb171 zl171 za171 Tryz.underlying171 ts177 tb177 zl177 za177 Tryz.underlying177 ts183 tb183 zl183 za183 Tryz.underlying183 ts189 tb189 zl189 za189 Tryz.underlying189 ts191 tb191 zl191 za191 Tryz.underlying191 ts195 tb195 za195 Tryz.underlying195 ts196 tb196 za196 Tryz.underlying196 ts198 tb198 zl198 za198 Tryz.underlying198 ts203 tb203 Tryz.underlying203 ts209 tb209 za209 Tryz.underlying209 ts210 tb210 za210 Tryz.underlying210 ts211 tb211 Tryz.underlying211 ts216 tb216 za216 Tryz.underlying216 ts217 tb217 za217 Tryz.underlying217 ts220 tb220 Tryz.underlying220 ts225 tb225 Tryz.underlying225 ts226 tb226 Tryz.underlying226 ts227 tb227 za227 Tryz.underlying227 ts228 tb228 za228 Tryz.underlying228 ts232 tb232 zl232 za232 Tryz.underlying232 ts233 tb233 zl233 za233 Tryz.underlying233 ts235 tb235 zl235 za235 Tryz.underlying235 ts236 tb236 zl236 za236 Tryz.underlying236 ts237 tb237 za237 Tryz.underlying237 ts238 tb238 za238 Tryz.underlying238
set_option maxRecDepth 100000
set_option linter.unusedSimpArgs false
set_option linter.unusedVariables false


theorem below_pc (x n : Int) (h1 : 1 ≤ n) (h2 : n ≤ 9223372036854775807) :
    Pc Tryz.prog 19 [.int .i64 x, .int .i64 n] (· = .int .i64 (x % n)) := by
  refine pc_intro (ct_intro Tryz.func19 rfl Tryz.ntmps19 hB19 (by simp) fun h ρ w => goW (N := 16) Tryz.ntmps19 200 ?_)
  have hm : x.tmod n = if 0 ≤ x ∨ n ∣ x then x % n else x % n - n.natAbs := by
    rw [Int.tmod_eq_emod]; split <;> simp
  have hlt := Int.emod_lt_of_pos x (show 0 < n by omega)
  have hge := Int.emod_nonneg x (show n ≠ 0 by omega)
  have hna : (n.natAbs : Int) = n := by omega
  rw [hna] at hm
  simp only [go_sem, Nat.reduceAdd, Nat.reduceMul, Nat.reduceSub, Nat.reduceBEq, Nat.reduceLT, Nat.reduceLeDiff, reduceIte, reduceCtorEq, Int.reduceToNat, Int.reduceLE, Int.reduceLT, Int.reduceNe, Int.reduceMul, Int.reduceAdd, Int.reduceSub, Int.reduceDiv, Int.reduceMod, Int.reduceEq, Int.reduceGE, Int.reduceGT, Int.reduceNeg, Int.reduceBEq, Int.reduceBNe, Nat.reduceEqDiff, xint]
  refine ⟨fun _ => by omega, fun _ => ⟨by omega, fun h3 => ?_, fun h3 => ?_⟩⟩
  · refine aret [4] rfl ⟨?_, rfl⟩
    show AV.int .i64 _ = _
    rw [hm] at h3 ⊢
    split at h3
    · omega
    · rw [if_neg (by assumption), show x % n - n + n = x % n by omega]
      exact congrArg _ (IntWalk.i64_in _ ⟨by omega, by omega⟩)
  · refine aret [4] rfl ⟨?_, rfl⟩
    show AV.int .i64 _ = _
    rw [hm] at h3 ⊢
    split at h3
    · rw [if_pos (by assumption)]
    · omega

/-- the stream's fields -/
def str (L : List Int) (at' : Int) : AV := .agg [.fz 1 (L.map (.int .i64)), .int .i64 at']

theorem next_mc (L : List Int) (k n : Int) (h1 : 1 ≤ n) (h2 : n ≤ 9223372036854775807) (h3 : 0 ≤ k) (h4 : k ≤ 1000000) :
    Mc Tryz.prog 53 2 (str L k) [.int .i64 n] (fun r s => (∃ v, r = .int .i64 v ∧ 0 ≤ v ∧ v < n) ∧ s = str L (k + 1)) := by
  refine ct_intro Tryz.func53 rfl Tryz.ntmps53 hB53 (by simp) fun h ρ w => goW (N := 64) Tryz.ntmps53 200 ?_
  have hw : IntKind.i64.wrap (k + 1) = k + 1 := IntWalk.i64_in _ ⟨by omega, by omega⟩
  have hk : k + 1 - 1 = k := by omega
  have hwk : IntKind.i64.wrap k = k := IntWalk.i64_in _ ⟨by omega, by omega⟩
  have fin : ∀ x : Int, 0 ≤ x % n ∧ x % n < n := fun x => ⟨Int.emod_nonneg x (by omega), Int.emod_lt_of_pos x (by omega)⟩
  simp only [go_sem, Nat.reduceAdd, Nat.reduceMul, Nat.reduceSub, Nat.reduceBEq, Nat.reduceLT, Nat.reduceLeDiff, reduceIte, reduceCtorEq, Int.reduceToNat, Int.reduceLE, Int.reduceLT, Int.reduceNe, Int.reduceMul, Int.reduceAdd, Int.reduceSub, Int.reduceDiv, Int.reduceMod, Int.reduceEq, Int.reduceGE, Int.reduceGT, Int.reduceNeg, Int.reduceBEq, Int.reduceBNe, Nat.reduceEqDiff, xint, str, hw]
  refine ⟨fun h5 => ?_, fun h5 => ?_⟩
  · refine pcall1 (below_pc _ n h1 h2) rfl (N := 64) Tryz.ntmps53 rfl (goW (N := 64) Tryz.ntmps53 200 ?_)
    simp only [go_sem, Nat.reduceAdd, Nat.reduceMul, Nat.reduceSub, Nat.reduceBEq, Nat.reduceLT, Nat.reduceLeDiff, reduceIte, reduceCtorEq, Int.reduceToNat, Int.reduceLE, Int.reduceLT, Int.reduceNe, Int.reduceMul, Int.reduceAdd, Int.reduceSub, Int.reduceDiv, Int.reduceMod, Int.reduceEq, Int.reduceGE, Int.reduceGT, Int.reduceNeg, Int.reduceBEq, Int.reduceBNe, Nat.reduceEqDiff, xint]
    exact aret [4] rfl ⟨_, _, rfl, ⟨_, rfl, fin _⟩, rfl, rfl, rfl⟩
  · refine adraw [] mixed (by decide) (N := 64) Tryz.ntmps53 (by decide) 100 ?_
    simp only [go_sem, Nat.reduceAdd, Nat.reduceMul, Nat.reduceSub, Nat.reduceBEq, Nat.reduceLT, Nat.reduceLeDiff, reduceIte, reduceCtorEq, Int.reduceToNat, Int.reduceLE, Int.reduceLT, Int.reduceNe, Int.reduceMul, Int.reduceAdd, Int.reduceSub, Int.reduceDiv, Int.reduceMod, Int.reduceEq, Int.reduceGE, Int.reduceGT, Int.reduceNeg, Int.reduceBEq, Int.reduceBNe, Nat.reduceEqDiff, xint, hw, hk, hwk]
    have hm0 : 0 < ((List.map (AV.int .i64) L).length : Int) := by omega
    have hmL : ((List.map (AV.int .i64) L).length : Int) = L.length := by simp
    generalize hM : ((List.map (AV.int .i64) L).length : Int) = M at *
    have d1 : 0 ≤ k / M := Int.ediv_nonneg h3 (by omega)
    have d2 : k / M ≤ k := Int.ediv_le_self _ h3
    have d3 : 0 ≤ k % M := Int.emod_nonneg k (by omega)
    have d4 : k % M < M := Int.emod_lt_of_pos k hm0
    have d5 : k % M ≤ k := by
      have q1 := Int.mul_ediv_add_emod k M
      have q2 : 0 ≤ M * (k / M) := Int.mul_nonneg (by omega) d1
      omega
    have d6 : 0 ≤ k / M * (7919 + k % M) := Int.mul_nonneg d1 (by omega)
    have d7 : k / M * (7919 + k % M) ≤ 1000000 * 1007919 := Int.mul_le_mul (by omega) (by omega) (by omega) (by omega)
    refine ⟨by omega, by omega, by omega, by omega, ?_⟩
    refine goW (N := 64) Tryz.ntmps53 200 ?_
    simp only [go_sem, Nat.reduceAdd, Nat.reduceMul, Nat.reduceSub, Nat.reduceBEq, Nat.reduceLT, Nat.reduceLeDiff, reduceIte, reduceCtorEq, Int.reduceToNat, Int.reduceLE, Int.reduceLT, Int.reduceNe, Int.reduceMul, Int.reduceAdd, Int.reduceSub, Int.reduceDiv, Int.reduceMod, Int.reduceEq, Int.reduceGE, Int.reduceGT, Int.reduceNeg, Int.reduceBEq, Int.reduceBNe, Nat.reduceEqDiff, xint, hw, hk, hwk, hM]
    refine adraw [] mixed (by decide) (N := 64) Tryz.ntmps53 (by decide) 100 ?_
    simp only [go_sem, Nat.reduceAdd, Nat.reduceMul, Nat.reduceSub, Nat.reduceBEq, Nat.reduceLT, Nat.reduceLeDiff, reduceIte, reduceCtorEq, Int.reduceToNat, Int.reduceLE, Int.reduceLT, Int.reduceNe, Int.reduceMul, Int.reduceAdd, Int.reduceSub, Int.reduceDiv, Int.reduceMod, Int.reduceEq, Int.reduceGE, Int.reduceGT, Int.reduceNeg, Int.reduceBEq, Int.reduceBNe, Nat.reduceEqDiff, xint, hw, hk, hwk, hM]
    refine ⟨by omega, by omega, by omega, by omega, by omega, by omega, ?_⟩
    have hx : ∃ x, (List.map (AV.int .i64) L).getD (k % M).toNat .any = .int .i64 x := by
      have : (k % M).toNat < L.length := by omega
      exact ⟨L[(k % M).toNat], by simp [List.getD, this]⟩
    obtain ⟨x, hx⟩ := hx
    have f1 : 0 ≤ x % 1073741824 := Int.emod_nonneg x (by omega)
    have f2 : x % 1073741824 < 1073741824 := Int.emod_lt_of_pos x (by omega)
    refine goW (N := 64) Tryz.ntmps53 200 ?_
    simp only [go_sem, Nat.reduceAdd, Nat.reduceMul, Nat.reduceSub, Nat.reduceBEq, Nat.reduceLT, Nat.reduceLeDiff, reduceIte, reduceCtorEq, Int.reduceToNat, Int.reduceLE, Int.reduceLT, Int.reduceNe, Int.reduceMul, Int.reduceAdd, Int.reduceSub, Int.reduceDiv, Int.reduceMod, Int.reduceEq, Int.reduceGE, Int.reduceGT, Int.reduceNeg, Int.reduceBEq, Int.reduceBNe, Nat.reduceEqDiff, xint, hw, hk, hwk, hM, hx]
    refine ⟨by omega, by omega, by simp; omega, ?_⟩
    refine pcall1 (below_pc _ _ (by omega) (by omega)) rfl (N := 64) Tryz.ntmps53 rfl (goW (N := 64) Tryz.ntmps53 200 ?_)
    simp only [go_sem, Nat.reduceAdd, Nat.reduceMul, Nat.reduceSub, Nat.reduceBEq, Nat.reduceLT, Nat.reduceLeDiff, reduceIte, reduceCtorEq, Int.reduceToNat, Int.reduceLE, Int.reduceLT, Int.reduceNe, Int.reduceMul, Int.reduceAdd, Int.reduceSub, Int.reduceDiv, Int.reduceMod, Int.reduceEq, Int.reduceGE, Int.reduceGT, Int.reduceNeg, Int.reduceBEq, Int.reduceBNe, Nat.reduceEqDiff, xint]
    refine pcall1 (below_pc _ n h1 h2) rfl (N := 64) Tryz.ntmps53 rfl (goW (N := 64) Tryz.ntmps53 200 ?_)
    simp only [go_sem, Nat.reduceAdd, Nat.reduceMul, Nat.reduceSub, Nat.reduceBEq, Nat.reduceLT, Nat.reduceLeDiff, reduceIte, reduceCtorEq, Int.reduceToNat, Int.reduceLE, Int.reduceLT, Int.reduceNe, Int.reduceMul, Int.reduceAdd, Int.reduceSub, Int.reduceDiv, Int.reduceMod, Int.reduceEq, Int.reduceGE, Int.reduceGT, Int.reduceNeg, Int.reduceBEq, Int.reduceBNe, Nat.reduceEqDiff, xint]
    exact aret [4] rfl ⟨_, _, rfl, ⟨_, rfl, fin _⟩, rfl, rfl, rfl⟩

theorem one_mc (L : List Int) (k : Int) (ls : List (List UInt8)) (h1 : 1 ≤ ls.length) (h2 : ls.length ≤ 1000) (h3 : 0 ≤ k) (h4 : k ≤ 1000000) :
    Mc Tryz.prog 23 2 (str L k) [.fz 1 (ls.map .str)] (fun r s => (∃ x ∈ ls, r = .str x) ∧ s = str L (k + 1)) := by
  refine ct_intro Tryz.func23 rfl Tryz.ntmps23 hB23 (by simp) fun h ρ w => goW (N := 12) Tryz.ntmps23 200 ?_
  simp only [go_sem, Nat.reduceAdd, Nat.reduceMul, Nat.reduceSub, Nat.reduceBEq, Nat.reduceLT, Nat.reduceLeDiff, reduceIte, reduceCtorEq, Int.reduceToNat, Int.reduceLE, Int.reduceLT, Int.reduceNe, Int.reduceMul, Int.reduceAdd, Int.reduceSub, Int.reduceDiv, Int.reduceMod, Int.reduceEq, Int.reduceGE, Int.reduceGT, Int.reduceNeg, Int.reduceBEq, Int.reduceBNe, Nat.reduceEqDiff, xint]
  have hlen : ((List.map AV.str ls).length : Int) = ls.length := by simp
  refine mcall (next_mc L k _ (by omega) (by omega) h3 h4) rfl rfl (id := 0) rfl (N := 12) Tryz.ntmps23 rfl ?_
  rintro _ _ ⟨⟨v, rfl, hv0, hv1⟩, rfl⟩
  refine goW (N := 12) Tryz.ntmps23 200 ?_
  have hv : v.toNat < ls.length := by omega
  have hx : (List.map AV.str ls).getD v.toNat .any = .str ls[v.toNat] := by simp [List.getD, hv]
  simp only [go_sem, Nat.reduceAdd, Nat.reduceMul, Nat.reduceSub, Nat.reduceBEq, Nat.reduceLT, Nat.reduceLeDiff, reduceIte, reduceCtorEq, Int.reduceToNat, Int.reduceLE, Int.reduceLT, Int.reduceNe, Int.reduceMul, Int.reduceAdd, Int.reduceSub, Int.reduceDiv, Int.reduceMod, Int.reduceEq, Int.reduceGE, Int.reduceGT, Int.reduceNeg, Int.reduceBEq, Int.reduceBNe, Nat.reduceEqDiff, xint, hx]
  refine ⟨by omega, by omega, by simpa using hv, ?_⟩
  exact aret [4] rfl ⟨_, _, rfl, ⟨_, List.getElem_mem hv, rfl⟩, rfl, rfl, rfl⟩
end Go.Proofs.YtpjbbpilgfihbaaGreatDoor
/- Draws: Range, Pick, Flip, Names, Sets, words. Own work of this seat. -/
set_option maxRecDepth 100000
set_option linter.unusedSimpArgs false
set_option linter.unusedVariables false
namespace Go.Proofs.YtpjbbpilgfihbaaGreatDoor
open Go Go.Av Go.RowKit
attribute [local go_sem ↓] br_true br_false dbr_true dbr_false dbri_true dbri_false dbrg_true dbrg_false
attribute [local go_sem] run cont br dbr dx dxc dgrd dyld dres dcall calm fieldPlace? allHas step1 opN grdN resN condN exitN stopN exitIt dOk xop xbin xint xarith xstr xbool xpick xnot xneg xextract xpart xpartOk xindex xfieldF fieldD xnew xbox xalloc xfieldAddr xptrAddIf xindexAddr xloadC xload putCells reElem xstoreB xstore xconv xtext xlen xlen2 xcall xfill xbuild cut rep xbuildSlice xbuildSliceD isRow elemD isU8 ev evs evp Go.Av.put Go.Av.get ofConst yldD yldV notBool_undef args0 cellsOf cond_true cond_false decide_true decide_false decide_eq_true_eq decide_eq_false_iff_not List.getElem?_cons_zero List.getElem?_cons_succ List.getElem?_nil List.getD_cons_zero List.getD_cons_succ List.getD_nil List.set_cons_zero List.set_cons_succ List.length_cons List.length_nil List.cons_append List.nil_append List.append_nil List.all_cons List.all_nil List.map_cons List.map_nil List.take_succ_cons List.take_zero List.drop_succ_cons List.drop_zero Bool.and_true Bool.true_and Bool.and_self Bool.and_false Bool.false_and one Go.Av.frozen beq_self_eq_true true_and and_true forall_const false_implies implies_true and_self Option.map_some Option.map_none Nat.zero_add Nat.add_zero Nat.zero_mul Nat.mul_one Nat.one_mul Int.toNat_zero ne_eq not_false_eq_true not_true_eq_false Bool.true_eq_false Bool.false_eq_true List.toList_toArray inr Go.Av.byteOf isByte decide_eq_decide Bool.not_true Bool.not_false Bool.not_eq_true' Bool.or_true Bool.true_or Bool.or_false Bool.false_or ge_iff_le gt_iff_lt and_assoc Bool.decide_eq_true beq_iff_eq beq_eq_false_iff_ne bne_iff_ne bne_self_eq_false if_true if_false Bool.and_eq_true Bool.or_eq_true Bool.and_eq_false_imp Bool.or_eq_false_iff Bool.not_eq_false' has Option.isSome_some Option.isSome_none Int.toNat_natCast Int.cast_ofNat_Int List.length_append xapp2 xapp xappS xappD xappB notInt srcOf srcB byteAV splice' xcut xcutS xcutF xcutB xcutN xcut0 cutL loOf hiOf evo xmake zelem xmax xcopy2 xcopyS xcopyB xnil xcut3 ixOf xclear2 xclearB List.getElem?_toArray xbin2 xnileq xempty xmkmap xmput xmputB xmputF isKey keyEq mfind xbin3 xeqs xeqop eqFs bothB leafEq xlook xlookB xlookF xbytes beq_c_n beq_n_c bne_c_n bne_n_c one_nil dxi dxic dbri rix dck reader blind opOk refOk Go.Op.operands Go.Call.operands List.contains_cons List.contains_nil dxg dxgc dbrg pck putD List.lookup_cons List.lookup_nil ts2 tb2 zl2 za2 Tryz.underlying2 ts3 tb3 zl3 za3 Tryz.underlying3 ts4 tb4 zl4 za4 Tryz.underlying4 ts5 tb5 zl5 za5 Tryz.underlying5 ts6 tb6 zl6 za6 Tryz.underlying6 ts7 tb7 za7 Tryz.underlying7 ts8 tb8 za8 Tryz.underlying8 ts9 tb9 zl9 za9 Tryz.underlying9 ts10 tb10 zl10 za10 Tryz.underlying10 ts11 tb11 zl11 za11 Tryz.underlying11 ts12 tb12 zl12 za12 Tryz.underlying12 ts13 tb13 za13 Tryz.underlying13 ts14 tb14 za14 Tryz.underlying14 ts18 tb18 za18 Tryz.underlying18 ts19 tb19 za19 Tryz.underlying19 ts21 tb21 zl21 za21 Tryz.underlying21 ts22 tb22 zl22 za22 Tryz.underlying22 ts24 tb24 za24 Tryz.underlying24 ts25 tb25 za25 Tryz.underlying25 ts27 tb27 zl27 za27 Tryz.underlying27 ts35 tb35 zl35 za35 Tryz.underlying35 ts36 tb36 za36 Tryz.underlying36 ts37 tb37 za37 Tryz.underlying37 ts39 tb39 zl39 za39 Tryz.underlying39 ts41 tb41 za41 Tryz.underlying41 ts42 tb42 za42 Tryz.underlying42 ts63 tb63 zl63 za63 Tryz.underlying63 ts64 tb64 zl64 za64 Tryz.underlying64 ts65 tb65 za65 Tryz.underlying65 ts66 tb66 za66 Tryz.underlying66 ts67 tb67 zl67 za67 Tryz.underlying67 ts69 tb69 za69 Tryz.underlying69 ts70 tb70 za70 Tryz.underlying70 ts73 tb73 za73 Tryz.underlying73 ts74 tb74 za74 Tryz.underlying74 ts75 tb75 zl75 za75 Tryz.underlying75 ts82 tb82 zl82 za82 Tryz.underlying82 ts96 tb96 za96 Tryz.underlying96 ts97 tb97 za97 Tryz.underlying97 ts103 tb103 za103 Tryz.underlying103 ts104 tb104 za104 Tryz.underlying104 ts109 tb109 zl109 za109 Tryz.underlying109 ts116 tb116 zl116 za116 Tryz.underlying116 ts117 tb117 za117 Tryz.underlying117 ts118 tb118 za118 Tryz.underlying118 ts120 tb120 zl120 za120 Tryz.underlying120 ts124 tb124 zl124 za124 Tryz.underlying124 ts126 tb126 za126 Tryz.underlying126 ts128 tb128 zl128 za128 Tryz.underlying128 ts130 tb130 za130 Tryz.underlying130 ts131 tb131 za131 Tryz.underlying131 ts153 tb153 zl153 za153 Tryz.underlying153 ts167 tb167 zl167 za167 Tryz.underlying167 ts171 tb171 zl171 za171 Tryz.underlying171 ts177 tb177 zl177 za177 Tryz.underlying177 ts183 tb183 zl183 za183 Tryz.underlying183 ts189 tb189 zl189 za189 Tryz.underlying189 ts191 tb191 zl191 za191 Tryz.underlying191 ts195 tb195 za195 Tryz.underlying195 ts196 tb196 za196 Tryz.underlying196 ts198 tb198 zl198 za198 Tryz.underlying198 ts203 tb203 Tryz.underlying203 ts209 tb209 za209 Tryz.underlying209 ts210 tb210 za210 Tryz.underlying210 ts211 tb211 Tryz.underlying211 ts216 tb216 za216 Tryz.underlying216 ts217 tb217 za217 Tryz.underlying217 ts220 tb220 Tryz.underlying220 ts225 tb225 Tryz.underlying225 ts226 tb226 Tryz.underlying226 ts227 tb227 za227 Tryz.underlying227 ts228 tb228 za228 Tryz.underlying228 ts232 tb232 zl232 za232 Tryz.underlying232 ts233 tb233 zl233 za233 Tryz.underlying233 ts235 tb235 zl235 za235 Tryz.underlying235 ts236 tb236 zl236 za236 Tryz.underlying236 ts237 tb237 za237 Tryz.underlying237 ts238 tb238 za238 Tryz.underlying238

theorem flip_mc (L : List Int) (k n : Int) (h1 : 1 ≤ n) (h2 : n ≤ 1000) (h3 : 0 ≤ k) (h4 : k ≤ 1000000) :
    Mc Tryz.prog 28 2 (str L k) [.int .i64 n] (fun r s => (∃ b, r = .bool b) ∧ s = str L (k + 1)) := by
  refine ct_intro Tryz.func28 rfl Tryz.ntmps28 hB28 (by simp) fun h ρ w => go (N := 9) Tryz.ntmps28 300 ?_
  simp only [go_sem, Nat.reduceAdd, Nat.reduceMul, Nat.reduceSub, Nat.reduceBEq, Nat.reduceLT, Nat.reduceLeDiff, reduceIte, reduceCtorEq, Int.reduceToNat, Int.reduceLE, Int.reduceLT, Int.reduceNe, Int.reduceMul, Int.reduceAdd, Int.reduceSub, Int.reduceDiv, Int.reduceMod, Int.reduceEq, Int.reduceGE, Int.reduceGT, Int.reduceNeg, Int.reduceBEq, Int.reduceBNe, Nat.reduceEqDiff]
  refine mcall (next_mc L k _ (by omega) (by omega) h3 h4) rfl rfl (id := 0) rfl (N := 9) Tryz.ntmps28 rfl ?_
  rintro _ _ ⟨⟨v, rfl, hv0, hv1⟩, rfl⟩
  refine go (N := 9) Tryz.ntmps28 300 ?_
  simp only [go_sem, Nat.reduceAdd, Nat.reduceMul, Nat.reduceSub, Nat.reduceBEq, Nat.reduceLT, Nat.reduceLeDiff, reduceIte, reduceCtorEq, Int.reduceToNat, Int.reduceLE, Int.reduceLT, Int.reduceNe, Int.reduceMul, Int.reduceAdd, Int.reduceSub, Int.reduceDiv, Int.reduceMod, Int.reduceEq, Int.reduceGE, Int.reduceGT, Int.reduceNeg, Int.reduceBEq, Int.reduceBNe, Nat.reduceEqDiff]
  exact aret [4] rfl ⟨_, _, rfl, ⟨_, rfl⟩, rfl, rfl, rfl⟩

theorem range_mc (L : List Int) (k a b : Int) (h1 : 0 ≤ a) (h2 : a ≤ b) (hb : b ≤ 1000) (h3 : 0 ≤ k) (h4 : k ≤ 1000000) :
    Mc Tryz.prog 104 2 (str L k) [.int .i64 a, .int .i64 b] (fun r s => (∃ v, r = .int .i64 v ∧ a ≤ v ∧ v ≤ b) ∧ s = str L (k + 1)) := by
  have d : decide (b < a) = false := by simp; omega
  refine ct_intro Tryz.func104 rfl Tryz.ntmps104 hB104 (by simp) fun h ρ w => go (N := 19) Tryz.ntmps104 300 ?_
  simp only [go_sem, Nat.reduceAdd, Nat.reduceMul, Nat.reduceSub, Nat.reduceBEq, Nat.reduceLT, Nat.reduceLeDiff, reduceIte, reduceCtorEq, Int.reduceToNat, Int.reduceLE, Int.reduceLT, Int.reduceNe, Int.reduceMul, Int.reduceAdd, Int.reduceSub, Int.reduceDiv, Int.reduceMod, Int.reduceEq, Int.reduceGE, Int.reduceGT, Int.reduceNeg, Int.reduceBEq, Int.reduceBNe, Nat.reduceEqDiff, d]
  refine ⟨by omega, by omega, by omega, by omega, ?_⟩
  refine mcall (next_mc L k _ (by omega) (by omega) h3 h4) rfl rfl (id := 0) rfl (N := 19) Tryz.ntmps104 rfl ?_
  rintro _ _ ⟨⟨v, rfl, hv0, hv1⟩, rfl⟩
  refine go (N := 19) Tryz.ntmps104 300 ?_
  simp only [go_sem, Nat.reduceAdd, Nat.reduceMul, Nat.reduceSub, Nat.reduceBEq, Nat.reduceLT, Nat.reduceLeDiff, reduceIte, reduceCtorEq, Int.reduceToNat, Int.reduceLE, Int.reduceLT, Int.reduceNe, Int.reduceMul, Int.reduceAdd, Int.reduceSub, Int.reduceDiv, Int.reduceMod, Int.reduceEq, Int.reduceGE, Int.reduceGT, Int.reduceNeg, Int.reduceBEq, Int.reduceBNe, Nat.reduceEqDiff]
  refine ⟨by omega, by omega, ?_⟩
  exact aret [6] rfl ⟨_, _, rfl, ⟨_, rfl, by omega, by omega⟩, rfl, rfl, rfl⟩

theorem pick_mc (L : List Int) (k : Int) (ls : List Int) (h1 : 1 ≤ ls.length) (h2 : ls.length ≤ 1000) (h3 : 0 ≤ k) (h4 : k ≤ 1000000) :
    Mc Tryz.prog 106 2 (str L k) [.fz 1 (ls.map (.int .i64))] (fun r s => (∃ x ∈ ls, r = .int .i64 x) ∧ s = str L (k + 1)) := by
  have hlen : ((List.map (AV.int .i64) ls).length : Int) = ls.length := by simp
  refine ct_intro Tryz.func106 rfl Tryz.ntmps106 hB106 (by simp) fun h ρ w => go (N := 12) Tryz.ntmps106 300 ?_
  simp only [go_sem, Nat.reduceAdd, Nat.reduceMul, Nat.reduceSub, Nat.reduceBEq, Nat.reduceLT, Nat.reduceLeDiff, reduceIte, reduceCtorEq, Int.reduceToNat, Int.reduceLE, Int.reduceLT, Int.reduceNe, Int.reduceMul, Int.reduceAdd, Int.reduceSub, Int.reduceDiv, Int.reduceMod, Int.reduceEq, Int.reduceGE, Int.reduceGT, Int.reduceNeg, Int.reduceBEq, Int.reduceBNe, Nat.reduceEqDiff]
  refine mcall (next_mc L k _ (by omega) (by omega) h3 h4) rfl rfl (id := 0) rfl (N := 12) Tryz.ntmps106 rfl ?_
  rintro _ _ ⟨⟨v, rfl, hv0, hv1⟩, rfl⟩
  have hv : v.toNat < ls.length := by omega
  have hx : (List.map (AV.int .i64) ls).getD v.toNat .any = .int .i64 ls[v.toNat] := by simp [List.getD, hv]
  refine go (N := 12) Tryz.ntmps106 300 ?_
  simp only [go_sem, Nat.reduceAdd, Nat.reduceMul, Nat.reduceSub, Nat.reduceBEq, Nat.reduceLT, Nat.reduceLeDiff, reduceIte, reduceCtorEq, Int.reduceToNat, Int.reduceLE, Int.reduceLT, Int.reduceNe, Int.reduceMul, Int.reduceAdd, Int.reduceSub, Int.reduceDiv, Int.reduceMod, Int.reduceEq, Int.reduceGE, Int.reduceGT, Int.reduceNeg, Int.reduceBEq, Int.reduceBNe, Nat.reduceEqDiff, hx]
  refine ⟨by omega, by omega, by simpa using hv, ?_⟩
  exact aret [4] rfl ⟨_, _, rfl, ⟨_, List.getElem_mem hv, rfl⟩, rfl, rfl, rfl⟩

def NameL : List (List UInt8) := [[65, 78, 78], [66, 79], [68, 82, 46, 32, 88], [65, 78, 78, 45, 77, 65, 82, 73, 69]]
def SetL : List (List UInt8) := [[72, 65, 76, 76], [77, 73, 76, 76], [66, 65, 82, 78, 32, 47, 32, 76, 79, 70, 84]]

theorem names_pc : Pc Tryz.prog 147 [] (· = .fz 1 (NameL.map .str)) := by
  refine pc_intro (ct_intro Tryz.func147 rfl Tryz.ntmps147 hB147 (by simp) fun h ρ w => goF (N := 2) Tryz.ntmps147 300 ?_)
  simp only [go_sem, Nat.reduceAdd, Nat.reduceMul, Nat.reduceSub, Nat.reduceBEq, Nat.reduceLT, Nat.reduceLeDiff, reduceIte, reduceCtorEq, Int.reduceToNat, Int.reduceLE, Int.reduceLT, Int.reduceNe, Int.reduceMul, Int.reduceAdd, Int.reduceSub, Int.reduceDiv, Int.reduceMod, Int.reduceEq, Int.reduceGE, Int.reduceGT, Int.reduceNeg, Int.reduceBEq, Int.reduceBNe, Nat.reduceEqDiff]
  exact aret [0] rfl ⟨rfl, rfl⟩
theorem sets_pc : Pc Tryz.prog 105 [] (· = .fz 1 (SetL.map .str)) := by
  refine pc_intro (ct_intro Tryz.func105 rfl Tryz.ntmps105 hB105 (by simp) fun h ρ w => goF (N := 2) Tryz.ntmps105 300 ?_)
  simp only [go_sem, Nat.reduceAdd, Nat.reduceMul, Nat.reduceSub, Nat.reduceBEq, Nat.reduceLT, Nat.reduceLeDiff, reduceIte, reduceCtorEq, Int.reduceToNat, Int.reduceLE, Int.reduceLT, Int.reduceNe, Int.reduceMul, Int.reduceAdd, Int.reduceSub, Int.reduceDiv, Int.reduceMod, Int.reduceEq, Int.reduceGE, Int.reduceGT, Int.reduceNeg, Int.reduceBEq, Int.reduceBNe, Nat.reduceEqDiff]
  exact aret [0] rfl ⟨rfl, rfl⟩

/-- the bytes of drawn words, of drawn texts -/
def wordC (c : UInt8) : Bool := okB c && (c != 40 && (c != 41 && c != 86))
def textC (c : UInt8) : Bool := okB c && c != 86
theorem wordC_text (c : UInt8) (h : wordC c = true) : textC c = true := by
  simp only [wordC, textC, Bool.and_eq_true] at h ⊢
  exact ⟨h.1, h.2.2.2⟩
theorem textC_ok (c : UInt8) (h : textC c = true) : okB c = true := by
  simp only [textC, Bool.and_eq_true] at h
  exact h.1

def WordL : List (List UInt8) := [[114, 97, 105, 110], [84, 119, 111], [103, 117, 110, 115], [65, 78, 78], [66, 111], [97], [116, 104, 101], [114, 101, 100], [99, 97, 114, 46], [115, 111, 108, 100, 105, 101, 114, 115], [49, 50],
  [100, 111, 110, 39, 116], [45, 45], [97, 98, 99, 100, 101, 102, 103, 104, 105, 106, 107, 108, 109, 110, 111, 112, 113, 114, 115, 116, 117, 118, 119, 120, 121, 122, 97, 98, 99, 100, 101, 102, 103, 104, 105, 106, 107, 108, 109, 110, 111, 112, 113, 114, 115, 116, 117, 118, 119, 120, 121, 122], [99, 97, 114]]
theorem word_ok : (WordL.all fun x => textB wordC x && decide (x.length ≤ 52)) = true := by decide +kernel
theorem word_of {x : List UInt8} (h : x ∈ WordL) : TextOk wordC x ∧ x.length ≤ 52 := by
  have := List.all_eq_true.1 word_ok x h
  simp only [Bool.and_eq_true, decide_eq_true_eq] at this
  exact ⟨textB_ok this.1, this.2⟩

theorem words_mc (L : List Int) (k m b : Int) (h1 : 1 ≤ m) (h2 : m ≤ 80) (h5 : 60 ≤ b) (h6 : b ≤ 2000) (h3 : 0 ≤ k) (h4 : k ≤ 900000) :
    Mc Tryz.prog 146 2 (str L k) [.int .i64 m, .int .i64 b] (fun r s => ∃ (t : List UInt8) (k' : Int), r = .str t ∧ TextOk wordC t ∧ (t.length : Int) ≤ b ∧ s = str L k' ∧ k ≤ k' ∧ k' ≤ k + 81) := by
  refine ct_intro Tryz.func146 rfl Tryz.ntmps146 hB146 (by simp) fun h ρ w => goF (N := 33) Tryz.ntmps146 300 ?_
  simp only [go_sem, Nat.reduceAdd, Nat.reduceMul, Nat.reduceSub, Nat.reduceBEq, Nat.reduceLT, Nat.reduceLeDiff, reduceIte, reduceCtorEq, Int.reduceToNat, Int.reduceLE, Int.reduceLT, Int.reduceNe, Int.reduceMul, Int.reduceAdd, Int.reduceSub, Int.reduceDiv, Int.reduceMod, Int.reduceEq, Int.reduceGE, Int.reduceGT, Int.reduceNeg, Int.reduceBEq, Int.reduceBNe, Nat.reduceEqDiff]
  refine mcall (range_mc L k 1 m (by omega) (by omega) (by omega) h3 (by omega)) rfl rfl (id := 0) rfl (N := 33) Tryz.ntmps146 rfl ?_
  rintro _ _ ⟨⟨v, rfl, hv0, hv1⟩, rfl⟩
  refine goF (N := 33) Tryz.ntmps146 300 ?_
  simp only [go_sem, Nat.reduceAdd, Nat.reduceMul, Nat.reduceSub, Nat.reduceBEq, Nat.reduceLT, Nat.reduceLeDiff, reduceIte, reduceCtorEq, Int.reduceToNat, Int.reduceLE, Int.reduceLT, Int.reduceNe, Int.reduceMul, Int.reduceAdd, Int.reduceSub, Int.reduceDiv, Int.reduceMod, Int.reduceEq, Int.reduceGE, Int.reduceGT, Int.reduceNeg, Int.reduceBEq, Int.reduceBNe, Nat.reduceEqDiff]
  refine aloopX (ι := Int × List UInt8) (κ := Int × List UInt8) (fun x => (v - x.1).toNat)
    (fun x => [(12, .int .i64 x.1), (11, .int .i64 v), (7, .str x.2), (2, .int .i64 b), (0, .ptr 0 1 0 0)])
    (fun x => [.arr 2 [str L (k + 1 + x.1)]])
    (fun x => 0 ≤ x.1 ∧ x.1 ≤ v ∧ (x.2.length : Int) ≤ b ∧ (x.1 = 0 → x.2 = []) ∧ (0 < x.1 → TextOk wordC x.2))
    (fun x => [(7, .str x.2), (0, .ptr 0 1 0 0)]) (fun x => [.arr 2 [str L x.1]])
    (fun x => k + 1 ≤ x.1 ∧ x.1 ≤ k + 81 ∧ (x.2.length : Int) ≤ b ∧ TextOk wordC x.2)
    (0, []) ⟨by omega, by omega, by simp; omega, by simp, by simp⟩ ?_ ?_ ?_
  · have h0 : k + 1 + 0 = k + 1 := by omega
    simp only [h0]
    refine Shift.weak ?_
    simp only [wk, go_sem, Nat.reduceAdd, Nat.reduceMul, Nat.reduceSub, Nat.reduceBEq, Nat.reduceLT, Nat.reduceLeDiff, reduceIte, reduceCtorEq, Int.reduceToNat, Int.reduceLE, Int.reduceLT, Int.reduceNe, Int.reduceMul, Int.reduceAdd, Int.reduceSub, Int.reduceDiv, Int.reduceMod, Int.reduceEq, Int.reduceGE, Int.reduceGT, Int.reduceNeg, Int.reduceBEq, Int.reduceBNe, Nat.reduceEqDiff]
  · rintro ⟨k', t⟩ ⟨g1, g2, g3, g4⟩
    simp only at g1 g2 g3 g4 ⊢
    refine go (N := 33) Tryz.ntmps146 300 ?_
    simp only [go_sem, Nat.reduceAdd, Nat.reduceMul, Nat.reduceSub, Nat.reduceBEq, Nat.reduceLT, Nat.reduceLeDiff, reduceIte, reduceCtorEq, Int.reduceToNat, Int.reduceLE, Int.reduceLT, Int.reduceNe, Int.reduceMul, Int.reduceAdd, Int.reduceSub, Int.reduceDiv, Int.reduceMod, Int.reduceEq, Int.reduceGE, Int.reduceGT, Int.reduceNeg, Int.reduceBEq, Int.reduceBNe, Nat.reduceEqDiff]
    exact aret [6] rfl ⟨_, _, rfl, ⟨t, k', rfl, g4, g3, rfl, by omega, by omega⟩, rfl, rfl⟩
  · rintro ⟨i, t⟩ ⟨g1, g2, g3, g4, g5⟩ J Q hJ hQ
    simp only at g1 g2 g3 g4 g5 hJ hQ ⊢
    refine goF (N := 33) Tryz.ntmps146 300 ?_
    by_cases gi : i < v
    · have d1 : decide (i < v) = true := by simp; omega
      simp only [go_sem, Nat.reduceAdd, Nat.reduceMul, Nat.reduceSub, Nat.reduceBEq, Nat.reduceLT, Nat.reduceLeDiff, reduceIte, reduceCtorEq, Int.reduceToNat, Int.reduceLE, Int.reduceLT, Int.reduceNe, Int.reduceMul, Int.reduceAdd, Int.reduceSub, Int.reduceDiv, Int.reduceMod, Int.reduceEq, Int.reduceGE, Int.reduceGT, Int.reduceNeg, Int.reduceBEq, Int.reduceBNe, Nat.reduceEqDiff, d1]
      refine mcall (one_mc L (k + 1 + i) WordL (by decide) (by decide) (by omega) (by omega)) rfl rfl (id := 0) rfl (N := 33) Tryz.ntmps146 rfl ?_
      rintro _ _ ⟨⟨x, hx, rfl⟩, rfl⟩
      obtain ⟨x1, x2⟩ := word_of hx
      have e1 : k + 1 + i + 1 = k + 1 + (i + 1) := by omega
      by_cases ht : t = []
      · subst ht
        have d3 : decide (((0 : Nat) : Int) + (x.length : Int) > b) = false := by simp; omega
        refine goF (N := 33) Tryz.ntmps146 300 ?_
        simp only [go_sem, Nat.reduceAdd, Nat.reduceMul, Nat.reduceSub, Nat.reduceBEq, Nat.reduceLT, Nat.reduceLeDiff, reduceIte, reduceCtorEq, Int.reduceToNat, Int.reduceLE, Int.reduceLT, Int.reduceNe, Int.reduceMul, Int.reduceAdd, Int.reduceSub, Int.reduceDiv, Int.reduceMod, Int.reduceEq, Int.reduceGE, Int.reduceGT, Int.reduceNeg, Int.reduceBEq, Int.reduceBNe, Nat.reduceEqDiff, d3]
        refine ⟨by omega, by omega, fun gl => (by simp at gl; omega), fun gl => ?_⟩
        repeat refine And.intro (by omega) ?_
        rw [e1]
        refine ainv (hJ (i + 1, x) ⟨by omega, by omega, by simp; omega, by intro h; simp at h; omega, fun _ => x1⟩ (by simp; omega)) (Shift.weak ?_)
        simp only [wk, go_sem, Nat.reduceAdd, Nat.reduceMul, Nat.reduceSub, Nat.reduceBEq, Nat.reduceLT, Nat.reduceLeDiff, reduceIte, reduceCtorEq, Int.reduceToNat, Int.reduceLE, Int.reduceLT, Int.reduceNe, Int.reduceMul, Int.reduceAdd, Int.reduceSub, Int.reduceDiv, Int.reduceMod, Int.reduceEq, Int.reduceGE, Int.reduceGT, Int.reduceNeg, Int.reduceBEq, Int.reduceBNe, Nat.reduceEqDiff]
      · have i0 : 0 < i := by
          rcases Int.lt_or_eq_of_le g1 with h | h
          · exact h
          · exact (ht (g4 h.symm)).elim
        have d2 : (t != []) = true := by simp [ht]
        have d2' : (t == []) = false := by simp [ht]
        refine goF (N := 33) Tryz.ntmps146 300 ?_
        simp only [go_sem, Nat.reduceAdd, Nat.reduceMul, Nat.reduceSub, Nat.reduceBEq, Nat.reduceLT, Nat.reduceLeDiff, reduceIte, reduceCtorEq, Int.reduceToNat, Int.reduceLE, Int.reduceLT, Int.reduceNe, Int.reduceMul, Int.reduceAdd, Int.reduceSub, Int.reduceDiv, Int.reduceMod, Int.reduceEq, Int.reduceGE, Int.reduceGT, Int.reduceNeg, Int.reduceBEq, Int.reduceBNe, Nat.reduceEqDiff, d2, d2']
        repeat refine And.intro (by omega) ?_
        refine ⟨fun gl => ?_, fun gl => ?_⟩
        · rw [e1]
          refine ainv (hQ (k + 1 + (i + 1), t) ⟨by omega, by omega, g3, g5 i0⟩) (Shift.weak ?_)
          simp only [wk, go_sem, Nat.reduceAdd, Nat.reduceMul, Nat.reduceSub, Nat.reduceBEq, Nat.reduceLT, Nat.reduceLeDiff, reduceIte, reduceCtorEq, Int.reduceToNat, Int.reduceLE, Int.reduceLT, Int.reduceNe, Int.reduceMul, Int.reduceAdd, Int.reduceSub, Int.reduceDiv, Int.reduceMod, Int.reduceEq, Int.reduceGE, Int.reduceGT, Int.reduceNeg, Int.reduceBEq, Int.reduceBNe, Nat.reduceEqDiff]
        · repeat refine And.intro (by omega) ?_
          rw [e1]
          refine ainv (hJ (i + 1, t ++ 32 :: x) ⟨by omega, by omega, by simp; simp at gl; omega, by intro h; simp at h; omega, fun _ => (g5 i0).join rfl x1⟩ (by simp; omega)) (Shift.weak ?_)
          simp only [wk, go_sem, Nat.reduceAdd, Nat.reduceMul, Nat.reduceSub, Nat.reduceBEq, Nat.reduceLT, Nat.reduceLeDiff, reduceIte, reduceCtorEq, Int.reduceToNat, Int.reduceLE, Int.reduceLT, Int.reduceNe, Int.reduceMul, Int.reduceAdd, Int.reduceSub, Int.reduceDiv, Int.reduceMod, Int.reduceEq, Int.reduceGE, Int.reduceGT, Int.reduceNeg, Int.reduceBEq, Int.reduceBNe, Nat.reduceEqDiff]
    · have d1 : decide (i < v) = false := by simp; omega
      simp only [go_sem, Nat.reduceAdd, Nat.reduceMul, Nat.reduceSub, Nat.reduceBEq, Nat.reduceLT, Nat.reduceLeDiff, reduceIte, reduceCtorEq, Int.reduceToNat, Int.reduceLE, Int.reduceLT, Int.reduceNe, Int.reduceMul, Int.reduceAdd, Int.reduceSub, Int.reduceDiv, Int.reduceMod, Int.reduceEq, Int.reduceGE, Int.reduceGT, Int.reduceNeg, Int.reduceBEq, Int.reduceBNe, Nat.reduceEqDiff, d1]
      refine ainv (hQ (k + 1 + i, t) ⟨by omega, by omega, g3, g5 (by omega)⟩) (Shift.weak ?_)
      simp only [wk, go_sem, Nat.reduceAdd, Nat.reduceMul, Nat.reduceSub, Nat.reduceBEq, Nat.reduceLT, Nat.reduceLeDiff, reduceIte, reduceCtorEq, Int.reduceToNat, Int.reduceLE, Int.reduceLT, Int.reduceNe, Int.reduceMul, Int.reduceAdd, Int.reduceSub, Int.reduceDiv, Int.reduceMod, Int.reduceEq, Int.reduceGE, Int.reduceGT, Int.reduceNeg, Int.reduceBEq, Int.reduceBNe, Nat.reduceEqDiff]
end Go.Proofs.YtpjbbpilgfihbaaGreatDoor
/- Draws: the paragraphs of a block. Own work of this seat. -/
set_option maxRecDepth 100000
set_option linter.unusedSimpArgs false
set_option linter.unusedVariables false
namespace Go.Proofs.YtpjbbpilgfihbaaGreatDoor
open Go Go.Av Go.RowKit
attribute [local go_sem ↓] br_true br_false dbr_true dbr_false dbri_true dbri_false dbrg_true dbrg_false
attribute [local go_sem] run cont br dbr dx dxc dgrd dyld dres dcall calm fieldPlace? allHas step1 opN grdN resN condN exitN stopN exitIt dOk xop xbin xint xarith xstr xbool xpick xnot xneg xextract xpart xpartOk xindex xfieldF fieldD xnew xbox xalloc xfieldAddr xptrAddIf xindexAddr xloadC xload putCells reElem xstoreB xstore xconv xtext xlen xlen2 xcall xfill xbuild cut rep xbuildSlice xbuildSliceD isRow elemD isU8 ev evs evp Go.Av.put Go.Av.get ofConst yldD yldV notBool_undef args0 cellsOf cond_true cond_false decide_true decide_false decide_eq_true_eq decide_eq_false_iff_not List.getElem?_cons_zero List.getElem?_cons_succ List.getElem?_nil List.getD_cons_zero List.getD_cons_succ List.getD_nil List.set_cons_zero List.set_cons_succ List.length_cons List.length_nil List.cons_append List.nil_append List.append_nil List.all_cons List.all_nil List.map_cons List.map_nil List.take_succ_cons List.take_zero List.drop_succ_cons List.drop_zero Bool.and_true Bool.true_and Bool.and_self Bool.and_false Bool.false_and one Go.Av.frozen beq_self_eq_true true_and and_true forall_const false_implies implies_true and_self Option.map_some Option.map_none Nat.zero_add Nat.add_zero Nat.zero_mul Nat.mul_one Nat.one_mul Int.toNat_zero ne_eq not_false_eq_true not_true_eq_false Bool.true_eq_false Bool.false_eq_true List.toList_toArray inr Go.Av.byteOf isByte decide_eq_decide Bool.not_true Bool.not_false Bool.not_eq_true' Bool.or_true Bool.true_or Bool.or_false Bool.false_or ge_iff_le gt_iff_lt and_assoc Bool.decide_eq_true beq_iff_eq beq_eq_false_iff_ne bne_iff_ne bne_self_eq_false if_true if_false Bool.and_eq_true Bool.or_eq_true Bool.and_eq_false_imp Bool.or_eq_false_iff Bool.not_eq_false' has Option.isSome_some Option.isSome_none Int.toNat_natCast Int.cast_ofNat_Int List.length_append xapp2 xapp xappS xappD xappB notInt srcOf srcB byteAV splice' xcut xcutS xcutF xcutB xcutN xcut0 cutL loOf hiOf evo xmake zelem xmax xcopy2 xcopyS xcopyB xnil xcut3 ixOf xclear2 xclearB List.getElem?_toArray xbin2 xnileq xempty xmkmap xmput xmputB xmputF isKey keyEq mfind xbin3 xeqs xeqop eqFs bothB leafEq xlook xlookB xlookF xbytes beq_c_n beq_n_c bne_c_n bne_n_c one_nil dxi dxic dbri rix dck reader blind opOk refOk Go.Op.operands Go.Call.operands List.contains_cons List.contains_nil dxg dxgc dbrg pck putD List.lookup_cons List.lookup_nil ts2 tb2 zl2 za2 Tryz.underlying2 ts3 tb3 zl3 za3 Tryz.underlying3 ts4 tb4 zl4 za4 Tryz.underlying4 ts5 tb5 zl5 za5 Tryz.underlying5 ts6 tb6 zl6 za6 Tryz.underlying6 ts7 tb7 za7 Tryz.underlying7 ts8 tb8 za8 Tryz.underlying8 ts9 tb9 zl9 za9 Tryz.underlying9 ts10 tb10 zl10 za10 Tryz.underlying10 ts11 tb11 zl11 za11 Tryz.underlying11 ts12 tb12 zl12 za12 Tryz.underlying12 ts13 tb13 za13 Tryz.underlying13 ts14 tb14 za14 Tryz.underlying14 ts18 tb18 za18 Tryz.underlying18 ts19 tb19 za19 Tryz.underlying19 ts21 tb21 zl21 za21 Tryz.underlying21 ts22 tb22 zl22 za22 Tryz.underlying22 ts24 tb24 za24 Tryz.underlying24 ts25 tb25 za25 Tryz.underlying25 ts27 tb27 zl27 za27 Tryz.underlying27 ts35 tb35 zl35 za35 Tryz.underlying35 ts36 tb36 za36 Tryz.underlying36 ts37 tb37 za37 Tryz.underlying37 ts39 tb39 zl39 za39 Tryz.underlying39 ts41 tb41 za41 Tryz.underlying41 ts42 tb42 za42 Tryz.underlying42 ts63 tb63 zl63 za63 Tryz.underlying63 ts64 tb64 zl64 za64 Tryz.underlying64 ts65 tb65 za65 Tryz.underlying65 ts66 tb66 za66 Tryz.underlying66 ts67 tb67 zl67 za67 Tryz.underlying67 ts69 tb69 za69 Tryz.underlying69 ts70 tb70 za70 Tryz.underlying70 ts73 tb73 za73 Tryz.underlying73 ts74 tb74 za74 Tryz.underlying74 ts75 tb75 zl75 za75 Tryz.underlying75 ts82 tb82 zl82 za82 Tryz.underlying82 ts96 tb96 za96 Tryz.underlying96 ts97 tb97 za97 Tryz.underlying97 ts103 tb103 za103 Tryz.underlying103 ts104 tb104 za104 Tryz.underlying104 ts109 tb109 zl109 za109 Tryz.underlying109 ts116 tb116 zl116 za116 Tryz.underlying116 ts117 tb117 za117 Tryz.underlying117 ts118 tb118 za118 Tryz.underlying118 ts120 tb120 zl120 za120 Tryz.underlying120 ts124 tb124 zl124 za124 Tryz.underlying124 ts126 tb126 za126 Tryz.underlying126 ts128 tb128 zl128 za128 Tryz.underlying128 ts130 tb130 za130 Tryz.underlying130 ts131 tb131 za131 Tryz.underlying131 ts153 tb153 zl153 za153 Tryz.underlying153 ts167 tb167 zl167 za167 Tryz.underlying167 ts171 tb171 zl171 za171 Tryz.underlying171 ts177 tb177 zl177 za177 Tryz.underlying177 ts183 tb183 zl183 za183 Tryz.underlying183 ts189 tb189 zl189 za189 Tryz.underlying189 ts191 tb191 zl191 za191 Tryz.underlying191 ts195 tb195 za195 Tryz.underlying195 ts196 tb196 za196 Tryz.underlying196 ts198 tb198 zl198 za198 Tryz.underlying198 ts203 tb203 Tryz.underlying203 ts209 tb209 za209 Tryz.underlying209 ts210 tb210 za210 Tryz.underlying210 ts211 tb211 Tryz.underlying211 ts216 tb216 za216 Tryz.underlying216 ts217 tb217 za217 Tryz.underlying217 ts220 tb220 Tryz.underlying220 ts225 tb225 Tryz.underlying225 ts226 tb226 Tryz.underlying226 ts227 tb227 za227 Tryz.underlying227 ts228 tb228 za228 Tryz.underlying228 ts232 tb232 zl232 za232 Tryz.underlying232 ts233 tb233 zl233 za233 Tryz.underlying233 ts235 tb235 zl235 za235 Tryz.underlying235 ts236 tb236 zl236 za236 Tryz.underlying236 ts237 tb237 za237 Tryz.underlying237 ts238 tb238 za238 Tryz.underlying238

/-- what paragraphs come to: the kind of the last one, if all are right -/
def runL : Int → List Pa → Option Int
  | l, [] => some l
  | l, p :: r => if paraOk p && followsL p.kind l then runL p.kind r else none
theorem runL_append : ∀ (a b : List Pa) (l e : Int), runL l a = some e → runL l (a ++ b) = runL e b
  | [], b, l, e, h => by
    simp only [runL, Option.some.injEq] at h
    subst h; rfl
  | p :: a, b, l, e, h => by
    simp only [runL] at h
    simp only [List.cons_append, runL]
    split at h
    · rename_i hc
      rw [if_pos hc]
      exact runL_append a b p.kind e h
    · simp at h
theorem runL_one {a : List Pa} {l e : Int} {p : Pa} (h : runL l a = some e) (h1 : paraOk p = true) (h2 : followsL p.kind e = true) : runL l (a ++ [p]) = some p.kind := by
  rw [runL_append a _ l e h]
  simp [runL, h1, h2]

def TurnL : List (List UInt8) := [[67, 85, 84, 32, 84, 79], [70, 65, 68, 69, 32, 79, 85, 84, 46], [69, 78, 68], [65, 78, 78]]
def PreA : List (List UInt8) := [[64], [62, 32], [35, 32], [92], [40], [35]]
def PreB : List (List UInt8) := [[40], [92], [35], [64]]

/-- a paragraph that is drawn -/
structure DrawnP (p : Pa) : Prop where
  text : TextOk textC p.text
  kind : 1 ≤ p.kind ∧ p.kind ≤ 5
  name : p.kind = 2 → p.text ∈ NameL
  ok : paraOk p = true

theorem drawn_text {k : Int} {t : List UInt8} (hk : k = 1 ∨ k = 4) (h : TextOk textC t) (hl : t.length ≤ 2000) : DrawnP ⟨k, t⟩ := by
  have hp := plain_of textC_ok h
  have hn : (t != []) = true := by simpa using h.ne
  refine ⟨h, by simp only; omega, by simp only; omega, ?_⟩
  rcases hk with rfl | rfl <;> simp [paraOk, hp, hn, hl]
theorem drawn_aside {t : List UInt8} (h : TextOk wordC t) (hl : t.length ≤ 200) : DrawnP ⟨3, t⟩ := by
  have h' := h.weak wordC_text
  have hp := plain_of textC_ok h'
  have hn : (t != []) = true := by simpa using h.ne
  have hc : Lib.containsAny t [40, 41] = false := by
    have : Lib.NoAny t [40, 41] t.length := fun j b _ hj => by
      have := List.all_eq_true.1 h.all b (List.mem_of_getElem? hj)
      simp only [wordC, Bool.and_eq_true, bne_iff_ne] at this
      simp [this.2.1, this.2.2.1]
    simp [Lib.containsAny, Lib.indexAny_none this]
  refine ⟨h', by simp, by simp, ?_⟩
  have h2 : t.length ≤ 2000 := by omega
  simp [paraOk, hp, hn, hl, hc, h2]
theorem name_all : (NameL.all fun t => textB textC t && paraOk ⟨2, t⟩) = true := by decide +kernel
theorem turn_all : (TurnL.all fun t => textB textC t && paraOk ⟨5, t⟩) = true := by decide +kernel
theorem drawn_name {t : List UInt8} (h : t ∈ NameL) : DrawnP ⟨2, t⟩ := by
  have := List.all_eq_true.1 name_all t h
  simp only [Bool.and_eq_true] at this
  exact ⟨textB_ok this.1, by simp, fun _ => h, this.2⟩
theorem drawn_turn {t : List UInt8} (h : t ∈ TurnL) : DrawnP ⟨5, t⟩ := by
  have := List.all_eq_true.1 turn_all t h
  simp only [Bool.and_eq_true] at this
  exact ⟨textB_ok this.1, by simp, by simp, this.2⟩
def preB (a : List UInt8) : Bool := a.all textC && (noDbl a && (a.head? != some 32 && (a != [] && decide (a.length ≤ 2))))
theorem pre_all : (PreA.all preB && PreB.all preB) = true := by decide +kernel
theorem pre_text {a t : List UInt8} (h : a ∈ PreA ∨ a ∈ PreB) (y : TextOk wordC t) : TextOk textC (a ++ t) ∧ a.length ≤ 2 := by
  have hp : preB a = true := by
    have := pre_all
    simp only [Bool.and_eq_true] at this
    rcases h with h | h
    · exact List.all_eq_true.1 this.1 a h
    · exact List.all_eq_true.1 this.2 a h
  simp only [preB, Bool.and_eq_true, bne_iff_ne, decide_eq_true_eq] at hp
  exact ⟨TextOk.pre wordC_text hp.1 hp.2.1 hp.2.2.1 hp.2.2.2.1 y, hp.2.2.2.2⟩

/-- a block of paragraphs that is drawn -/
structure Block (b : List Pa) : Prop where
  run : ∀ l, l ≠ 2 → l ≠ 3 → ∃ e, runL l b = some e ∧ e ≠ 2 ∧ e ≠ 3
  len : 1 ≤ b.length ∧ b.length ≤ 5
  all : ∀ p ∈ b, DrawnP p
theorem follows_free {k l : Int} (hk : k ≠ 3) (hk' : k ≠ 4) (h2 : l ≠ 2) (h3 : l ≠ 3) : followsL k l = true := by simp [followsL, hk, hk', h2, h3]
theorem block_one {p : Pa} (h : DrawnP p) (hk : p.kind = 1 ∨ p.kind = 5) : Block [p] := by
  refine ⟨fun l h2 h3 => ⟨p.kind, ?_, by omega, by omega⟩, by simp, by simpa using h⟩
  simp [runL, h.ok, follows_free (show p.kind ≠ 3 by omega) (show p.kind ≠ 4 by omega) h2 h3]

theorem frozen_paras (ps : List Pa) : (flat (ps.map paA)).all Av.frozen = true := by
  induction ps with
  | nil => rfl
  | cons y l ih => simpa [flat, cellsOf, paA, Av.frozen] using ih

set_option maxHeartbeats 2000000 in
theorem paras_mc (L : List Int) (k : Int) (h3 : 0 ≤ k) (h4 : k ≤ 800000) :
    Mc Tryz.prog 107 2 (str L k) [] (fun r s => ∃ (b : List Pa) (k' : Int), r = .fz 2 (b.map paA) ∧ Block b ∧ s = str L k' ∧ k ≤ k' ∧ k' ≤ k + 400) := by
  refine ct_intro Tryz.func107 rfl Tryz.ntmps107 hB107 (by simp) fun h ρ w => goF (N := 72) Tryz.ntmps107 300 ?_
  simp only [go_sem, Nat.reduceAdd, Nat.reduceMul, Nat.reduceSub, Nat.reduceBEq, Nat.reduceLT, Nat.reduceLeDiff, reduceIte, reduceCtorEq, Int.reduceToNat, Int.reduceLE, Int.reduceLT, Int.reduceNe, Int.reduceMul, Int.reduceAdd, Int.reduceSub, Int.reduceDiv, Int.reduceMod, Int.reduceEq, Int.reduceGE, Int.reduceGT, Int.reduceNeg, Int.reduceBEq, Int.reduceBNe, Nat.reduceEqDiff]
  refine mcall (next_mc L k _ (by omega) (by omega) h3 (by omega)) rfl rfl (id := 0) rfl (N := 72) Tryz.ntmps107 rfl ?_
  rintro _ _ ⟨⟨v, rfl, hv0, hv1⟩, rfl⟩
  have hv : (v = 0 ∨ v = 1) ∨ v = 2 ∨ ((v == 0) = false ∧ (v == 1) = false ∧ (v == 2) = false) := by
    by_cases a : v = 0
    · exact .inl (.inl a)
    by_cases b : v = 1
    · exact .inl (.inr b)
    by_cases c : v = 2
    · exact .inr (.inl c)
    exact .inr (.inr ⟨by simpa using a, by simpa using b, by simpa using c⟩)
  rcases hv with hv | rfl | ⟨d0, d1, d2⟩
  · have picks : ∀ x ∈ [(3 : Int), 12, 60], 1 ≤ x ∧ x ≤ 80 := by decide
    rcases hv with rfl | rfl <;>
    · refine goF (N := 72) Tryz.ntmps107 300 ?_
      simp only [go_sem, Nat.reduceAdd, Nat.reduceMul, Nat.reduceSub, Nat.reduceBEq, Nat.reduceLT, Nat.reduceLeDiff, reduceIte, reduceCtorEq, Int.reduceToNat, Int.reduceLE, Int.reduceLT, Int.reduceNe, Int.reduceMul, Int.reduceAdd, Int.reduceSub, Int.reduceDiv, Int.reduceMod, Int.reduceEq, Int.reduceGE, Int.reduceGT, Int.reduceNeg, Int.reduceBEq, Int.reduceBNe, Nat.reduceEqDiff]
      refine mcall (pick_mc L (k + 1) [3, 12, 60] (by decide) (by decide) (by omega) (by omega)) rfl rfl (id := 0) rfl (N := 72) Tryz.ntmps107 rfl ?_
      rintro _ _ ⟨⟨x, hx, rfl⟩, rfl⟩
      refine goF (N := 72) Tryz.ntmps107 300 ?_
      simp only [go_sem, Nat.reduceAdd, Nat.reduceMul, Nat.reduceSub, Nat.reduceBEq, Nat.reduceLT, Nat.reduceLeDiff, reduceIte, reduceCtorEq, Int.reduceToNat, Int.reduceLE, Int.reduceLT, Int.reduceNe, Int.reduceMul, Int.reduceAdd, Int.reduceSub, Int.reduceDiv, Int.reduceMod, Int.reduceEq, Int.reduceGE, Int.reduceGT, Int.reduceNeg, Int.reduceBEq, Int.reduceBNe, Nat.reduceEqDiff]
      refine mcall (words_mc L (k + 1 + 1) x 1998 (picks x hx).1 (picks x hx).2 (by omega) (by omega) (by omega) (by omega)) rfl rfl (id := 0) rfl (N := 72) Tryz.ntmps107 rfl ?_
      rintro _ _ ⟨t, k', rfl, t1, t2, rfl, t3, t4⟩
      refine goF (N := 72) Tryz.ntmps107 300 ?_
      simp only [go_sem, Nat.reduceAdd, Nat.reduceMul, Nat.reduceSub, Nat.reduceBEq, Nat.reduceLT, Nat.reduceLeDiff, reduceIte, reduceCtorEq, Int.reduceToNat, Int.reduceLE, Int.reduceLT, Int.reduceNe, Int.reduceMul, Int.reduceAdd, Int.reduceSub, Int.reduceDiv, Int.reduceMod, Int.reduceEq, Int.reduceGE, Int.reduceGT, Int.reduceNeg, Int.reduceBEq, Int.reduceBNe, Nat.reduceEqDiff]
      refine mcall (flip_mc L k' 8 (by omega) (by omega) (by omega) (by omega)) rfl rfl (id := 0) rfl (N := 72) Tryz.ntmps107 rfl ?_
      rintro _ _ ⟨⟨b, rfl⟩, rfl⟩
      cases b with
      | true =>
        refine goF (N := 72) Tryz.ntmps107 300 ?_
        simp only [go_sem, Nat.reduceAdd, Nat.reduceMul, Nat.reduceSub, Nat.reduceBEq, Nat.reduceLT, Nat.reduceLeDiff, reduceIte, reduceCtorEq, Int.reduceToNat, Int.reduceLE, Int.reduceLT, Int.reduceNe, Int.reduceMul, Int.reduceAdd, Int.reduceSub, Int.reduceDiv, Int.reduceMod, Int.reduceEq, Int.reduceGE, Int.reduceGT, Int.reduceNeg, Int.reduceBEq, Int.reduceBNe, Nat.reduceEqDiff]
        refine mcall (one_mc L (k' + 1) PreA (by decide) (by decide) (by omega) (by omega)) rfl rfl (id := 0) rfl (N := 72) Tryz.ntmps107 rfl ?_
        rintro _ _ ⟨⟨y, hy, rfl⟩, rfl⟩
        refine goF (N := 72) Tryz.ntmps107 300 ?_
        simp only [go_sem, Nat.reduceAdd, Nat.reduceMul, Nat.reduceSub, Nat.reduceBEq, Nat.reduceLT, Nat.reduceLeDiff, reduceIte, reduceCtorEq, Int.reduceToNat, Int.reduceLE, Int.reduceLT, Int.reduceNe, Int.reduceMul, Int.reduceAdd, Int.reduceSub, Int.reduceDiv, Int.reduceMod, Int.reduceEq, Int.reduceGE, Int.reduceGT, Int.reduceNeg, Int.reduceBEq, Int.reduceBNe, Nat.reduceEqDiff]
        obtain ⟨u1, u2⟩ := pre_text (.inl hy) t1
        refine ⟨by omega, ?_⟩
        exact aret [2] rfl ⟨_, _, rfl, ⟨[⟨1, y ++ t⟩], k' + 1 + 1, rfl, block_one (drawn_text (.inl rfl) u1 (by simp; omega)) (.inl rfl), rfl, by omega, by omega⟩, rfl, rfl⟩
      | false =>
        refine goF (N := 72) Tryz.ntmps107 300 ?_
        simp only [go_sem, Nat.reduceAdd, Nat.reduceMul, Nat.reduceSub, Nat.reduceBEq, Nat.reduceLT, Nat.reduceLeDiff, reduceIte, reduceCtorEq, Int.reduceToNat, Int.reduceLE, Int.reduceLT, Int.reduceNe, Int.reduceMul, Int.reduceAdd, Int.reduceSub, Int.reduceDiv, Int.reduceMod, Int.reduceEq, Int.reduceGE, Int.reduceGT, Int.reduceNeg, Int.reduceBEq, Int.reduceBNe, Nat.reduceEqDiff]
        exact aret [2] rfl ⟨_, _, rfl, ⟨[⟨1, t⟩], k' + 1, rfl, block_one (drawn_text (.inl rfl) (t1.weak wordC_text) (by omega)) (.inl rfl), rfl, by omega, by omega⟩, rfl, rfl⟩
  · refine goF (N := 72) Tryz.ntmps107 300 ?_
    simp only [go_sem, Nat.reduceAdd, Nat.reduceMul, Nat.reduceSub, Nat.reduceBEq, Nat.reduceLT, Nat.reduceLeDiff, reduceIte, reduceCtorEq, Int.reduceToNat, Int.reduceLE, Int.reduceLT, Int.reduceNe, Int.reduceMul, Int.reduceAdd, Int.reduceSub, Int.reduceDiv, Int.reduceMod, Int.reduceEq, Int.reduceGE, Int.reduceGT, Int.reduceNeg, Int.reduceBEq, Int.reduceBNe, Nat.reduceEqDiff]
    refine mcall (one_mc L (k + 1) TurnL (by decide) (by decide) (by omega) (by omega)) rfl rfl (id := 0) rfl (N := 72) Tryz.ntmps107 rfl ?_
    rintro _ _ ⟨⟨y, hy, rfl⟩, rfl⟩
    refine goF (N := 72) Tryz.ntmps107 300 ?_
    simp only [go_sem, Nat.reduceAdd, Nat.reduceMul, Nat.reduceSub, Nat.reduceBEq, Nat.reduceLT, Nat.reduceLeDiff, reduceIte, reduceCtorEq, Int.reduceToNat, Int.reduceLE, Int.reduceLT, Int.reduceNe, Int.reduceMul, Int.reduceAdd, Int.reduceSub, Int.reduceDiv, Int.reduceMod, Int.reduceEq, Int.reduceGE, Int.reduceGT, Int.reduceNeg, Int.reduceBEq, Int.reduceBNe, Nat.reduceEqDiff]
    exact aret [2] rfl ⟨_, _, rfl, ⟨[⟨5, y⟩], k + 1 + 1, rfl, block_one (drawn_turn hy) (.inr rfl), rfl, by omega, by omega⟩, rfl, rfl⟩
  · refine go (N := 72) Tryz.ntmps107 300 ?_
    simp only [go_sem, Nat.reduceAdd, Nat.reduceMul, Nat.reduceSub, Nat.reduceBEq, Nat.reduceLT, Nat.reduceLeDiff, reduceIte, reduceCtorEq, Int.reduceToNat, Int.reduceLE, Int.reduceLT, Int.reduceNe, Int.reduceMul, Int.reduceAdd, Int.reduceSub, Int.reduceDiv, Int.reduceMod, Int.reduceEq, Int.reduceGE, Int.reduceGT, Int.reduceNeg, Int.reduceBEq, Int.reduceBNe, Nat.reduceEqDiff, d0, d1, d2]
    refine pcall1 (names_pc) rfl (N := 72) Tryz.ntmps107 rfl (go (N := 72) Tryz.ntmps107 300 ?_)
    simp only [go_sem, Nat.reduceAdd, Nat.reduceMul, Nat.reduceSub, Nat.reduceBEq, Nat.reduceLT, Nat.reduceLeDiff, reduceIte, reduceCtorEq, Int.reduceToNat, Int.reduceLE, Int.reduceLT, Int.reduceNe, Int.reduceMul, Int.reduceAdd, Int.reduceSub, Int.reduceDiv, Int.reduceMod, Int.reduceEq, Int.reduceGE, Int.reduceGT, Int.reduceNeg, Int.reduceBEq, Int.reduceBNe, Nat.reduceEqDiff, d0, d1, d2]
    refine mcall (one_mc L (k + 1) NameL (by decide) (by decide) (by omega) (by omega)) rfl rfl (id := 0) rfl (N := 72) Tryz.ntmps107 rfl ?_
    rintro _ _ ⟨⟨y, hy, rfl⟩, rfl⟩
    refine go (N := 72) Tryz.ntmps107 300 ?_
    simp only [go_sem, Nat.reduceAdd, Nat.reduceMul, Nat.reduceSub, Nat.reduceBEq, Nat.reduceLT, Nat.reduceLeDiff, reduceIte, reduceCtorEq, Int.reduceToNat, Int.reduceLE, Int.reduceLT, Int.reduceNe, Int.reduceMul, Int.reduceAdd, Int.reduceSub, Int.reduceDiv, Int.reduceMod, Int.reduceEq, Int.reduceGE, Int.reduceGT, Int.reduceNeg, Int.reduceBEq, Int.reduceBNe, Nat.reduceEqDiff]
    refine mcall (range_mc L (k + 1 + 1) 1 2 (by omega) (by omega) (by omega) (by omega) (by omega)) rfl rfl (id := 0) rfl (N := 72) Tryz.ntmps107 rfl ?_
    rintro _ _ ⟨⟨n, rfl, hn1, hn2⟩, rfl⟩
    refine go (N := 72) Tryz.ntmps107 300 ?_
    simp only [go_sem, Nat.reduceAdd, Nat.reduceMul, Nat.reduceSub, Nat.reduceBEq, Nat.reduceLT, Nat.reduceLeDiff, reduceIte, reduceCtorEq, Int.reduceToNat, Int.reduceLE, Int.reduceLT, Int.reduceNe, Int.reduceMul, Int.reduceAdd, Int.reduceSub, Int.reduceDiv, Int.reduceMod, Int.reduceEq, Int.reduceGE, Int.reduceGT, Int.reduceNeg, Int.reduceBEq, Int.reduceBNe, Nat.reduceEqDiff]
    have dn := drawn_name hy
    refine aloop (ι := Int × Int × Int × List Pa) (fun x => (n - x.1).toNat)
      (fun x => [(40, .int .i64 x.1), (39, .int .i64 n), (4, .sl 1 0 x.2.2.2.length x.2.2.2.length), (0, .ptr 0 1 0 0)])
      (fun x => [.arr 2 [str L x.2.1], .arr 2 (x.2.2.2.map paA)])
      (fun x => 0 ≤ x.1 ∧ x.1 ≤ n ∧ k ≤ x.2.1 ∧ x.2.1 ≤ k + 3 + 170 * x.1 ∧ (x.2.2.1 = 2 ∨ x.2.2.1 = 4) ∧ (0 < x.1 → x.2.2.1 = 4) ∧ (∀ l, l ≠ 2 → l ≠ 3 → runL l x.2.2.2 = some x.2.2.1) ∧ (∀ p ∈ x.2.2.2, DrawnP p) ∧ 1 ≤ x.2.2.2.length ∧ (x.2.2.2.length : Int) ≤ 1 + 2 * x.1)
      (0, k + 1 + 1 + 1, 2, [⟨2, y⟩]) ⟨Int.le_refl _, by simp only; omega, by simp only; omega, by simp only; omega, .inl rfl, by simp, ?_, by simpa using dn, by simp, by simp⟩ ?_ ?_
    · intro l h2 h3
      simp [runL, dn.ok, follows_free (show (2 : Int) ≠ 3 by decide) (show (2 : Int) ≠ 4 by decide) h2 h3]
    · refine Shift.weak ?_
      simp only [wk, go_sem, Nat.reduceAdd, Nat.reduceMul, Nat.reduceSub, Nat.reduceBEq, Nat.reduceLT, Nat.reduceLeDiff, reduceIte, reduceCtorEq, Int.reduceToNat, Int.reduceLE, Int.reduceLT, Int.reduceNe, Int.reduceMul, Int.reduceAdd, Int.reduceSub, Int.reduceDiv, Int.reduceMod, Int.reduceEq, Int.reduceGE, Int.reduceGT, Int.reduceNeg, Int.reduceBEq, Int.reduceBNe, Nat.reduceEqDiff]
    · rintro ⟨i, k', e, out⟩ ⟨g1, g2, g3, g4, g5, g6, g7, g8, g9, g10⟩ J hJ
      simp only at g1 g2 g3 g4 g5 g6 g7 g8 g9 g10 hJ ⊢
      refine goF (N := 72) Tryz.ntmps107 300 ?_
      by_cases gi : i < n
      · have di : decide (i < n) = true := by simp; omega
        simp only [go_sem, Nat.reduceAdd, Nat.reduceMul, Nat.reduceSub, Nat.reduceBEq, Nat.reduceLT, Nat.reduceLeDiff, reduceIte, reduceCtorEq, Int.reduceToNat, Int.reduceLE, Int.reduceLT, Int.reduceNe, Int.reduceMul, Int.reduceAdd, Int.reduceSub, Int.reduceDiv, Int.reduceMod, Int.reduceEq, Int.reduceGE, Int.reduceGT, Int.reduceNeg, Int.reduceBEq, Int.reduceBNe, Nat.reduceEqDiff, di]
        refine mcall (flip_mc L k' 3 (by omega) (by omega) (by omega) (by omega)) rfl rfl (id := 0) rfl (N := 72) Tryz.ntmps107 rfl ?_
        rintro _ _ ⟨⟨b, rfl⟩, rfl⟩
        refine amid (κ := Int × Int × List Pa)
          (fun x => [(40, .int .i64 i), (39, .int .i64 n), (4, .sl 1 0 x.2.2.length x.2.2.length), (0, .ptr 0 1 0 0)])
          (fun x => [.arr 2 [str L x.1], .arr 2 (x.2.2.map paA)])
          (fun x => k' ≤ x.1 ∧ x.1 ≤ k' + 84 ∧ (x.2.1 = 2 ∨ x.2.1 = 3 ∨ x.2.1 = 4) ∧ (∀ l, l ≠ 2 → l ≠ 3 → runL l x.2.2 = some x.2.1) ∧ (∀ p ∈ x.2.2, DrawnP p) ∧ 1 ≤ x.2.2.length ∧ (x.2.2.length : Int) ≤ 2 + 2 * i) ?_ ?_
        · rintro ⟨k2, e2, out2⟩ ⟨f1, f2, f3, f4, f5, f6, f7⟩
          simp only at f1 f2 f3 f4 f5 f6 f7 ⊢
          refine goF (N := 72) Tryz.ntmps107 300 ?_
          simp only [go_sem, Nat.reduceAdd, Nat.reduceMul, Nat.reduceSub, Nat.reduceBEq, Nat.reduceLT, Nat.reduceLeDiff, reduceIte, reduceCtorEq, Int.reduceToNat, Int.reduceLE, Int.reduceLT, Int.reduceNe, Int.reduceMul, Int.reduceAdd, Int.reduceSub, Int.reduceDiv, Int.reduceMod, Int.reduceEq, Int.reduceGE, Int.reduceGT, Int.reduceNeg, Int.reduceBEq, Int.reduceBNe, Nat.reduceEqDiff]
          refine mcall (pick_mc L k2 [3, 12, 80] (by decide) (by decide) (by omega) (by omega)) rfl rfl (id := 0) rfl (N := 72) Tryz.ntmps107 rfl ?_
          rintro _ _ ⟨⟨x, hx, rfl⟩, rfl⟩
          have px : 1 ≤ x ∧ x ≤ 80 := (show ∀ x ∈ [(3 : Int), 12, 80], 1 ≤ x ∧ x ≤ 80 by decide) x hx
          refine goF (N := 72) Tryz.ntmps107 300 ?_
          simp only [go_sem, Nat.reduceAdd, Nat.reduceMul, Nat.reduceSub, Nat.reduceBEq, Nat.reduceLT, Nat.reduceLeDiff, reduceIte, reduceCtorEq, Int.reduceToNat, Int.reduceLE, Int.reduceLT, Int.reduceNe, Int.reduceMul, Int.reduceAdd, Int.reduceSub, Int.reduceDiv, Int.reduceMod, Int.reduceEq, Int.reduceGE, Int.reduceGT, Int.reduceNeg, Int.reduceBEq, Int.reduceBNe, Nat.reduceEqDiff]
          refine mcall (words_mc L (k2 + 1) x 1998 px.1 px.2 (by omega) (by omega) (by omega) (by omega)) rfl rfl (id := 0) rfl (N := 72) Tryz.ntmps107 rfl ?_
          rintro _ _ ⟨t, k3, rfl, t1, t2, rfl, t3, t4⟩
          refine goF (N := 72) Tryz.ntmps107 300 ?_
          simp only [go_sem, Nat.reduceAdd, Nat.reduceMul, Nat.reduceSub, Nat.reduceBEq, Nat.reduceLT, Nat.reduceLeDiff, reduceIte, reduceCtorEq, Int.reduceToNat, Int.reduceLE, Int.reduceLT, Int.reduceNe, Int.reduceMul, Int.reduceAdd, Int.reduceSub, Int.reduceDiv, Int.reduceMod, Int.reduceEq, Int.reduceGE, Int.reduceGT, Int.reduceNeg, Int.reduceBEq, Int.reduceBNe, Nat.reduceEqDiff]
          refine mcall (flip_mc L k3 8 (by omega) (by omega) (by omega) (by omega)) rfl rfl (id := 0) rfl (N := 72) Tryz.ntmps107 rfl ?_
          rintro _ _ ⟨⟨b, rfl⟩, rfl⟩
          have fol : followsL 4 e2 = true := by rcases f3 with rfl | rfl | rfl <;> rfl
          have e3 : ∀ q u, List.map paA out2 ++ [AV.agg [.int .i64 q, .str u]] = List.map paA (out2 ++ [⟨q, u⟩]) := fun q u => by simp [paA]
          have e4 : ∀ q u, out2.length + 1 = (out2 ++ [(⟨q, u⟩ : Pa)]).length := fun q u => by simp
          have next : ∀ (q : Pa) (k4 : Int), DrawnP q → q.kind = 4 → k3 ≤ k4 → k4 ≤ k3 + 2 → _ := fun q k4 hq hk h1 h2 => hJ (i + 1, k4, 4, out2 ++ [q]) ⟨by simp only; omega, by simp only; omega, by simp only; omega, by simp only; omega, .inr rfl, fun _ => rfl,
            fun l l2 l3 => hk ▸ runL_one (f4 l l2 l3) hq.ok (hk ▸ fol), fun p hp => by
              rcases List.mem_append.1 hp with hp | hp
              · exact f5 p hp
              · rw [List.mem_singleton.1 hp]; exact hq, by simp, by simp only [List.length_append, List.length_cons, List.length_nil]; omega⟩ (by simp only; omega)
          cases b with
          | true =>
            refine goF (N := 72) Tryz.ntmps107 300 ?_
            simp only [go_sem, Nat.reduceAdd, Nat.reduceMul, Nat.reduceSub, Nat.reduceBEq, Nat.reduceLT, Nat.reduceLeDiff, reduceIte, reduceCtorEq, Int.reduceToNat, Int.reduceLE, Int.reduceLT, Int.reduceNe, Int.reduceMul, Int.reduceAdd, Int.reduceSub, Int.reduceDiv, Int.reduceMod, Int.reduceEq, Int.reduceGE, Int.reduceGT, Int.reduceNeg, Int.reduceBEq, Int.reduceBNe, Nat.reduceEqDiff]
            refine mcall (one_mc L (k3 + 1) PreB (by decide) (by decide) (by omega) (by omega)) rfl rfl (id := 0) rfl (N := 72) Tryz.ntmps107 rfl ?_
            rintro _ _ ⟨⟨y, hy, rfl⟩, rfl⟩
            obtain ⟨u1, u2⟩ := pre_text (.inr hy) t1
            refine goF (N := 72) Tryz.ntmps107 300 ?_
            simp only [go_sem, Nat.reduceAdd, Nat.reduceMul, Nat.reduceSub, Nat.reduceBEq, Nat.reduceLT, Nat.reduceLeDiff, reduceIte, reduceCtorEq, Int.reduceToNat, Int.reduceLE, Int.reduceLT, Int.reduceNe, Int.reduceMul, Int.reduceAdd, Int.reduceSub, Int.reduceDiv, Int.reduceMod, Int.reduceEq, Int.reduceGE, Int.reduceGT, Int.reduceNeg, Int.reduceBEq, Int.reduceBNe, Nat.reduceEqDiff]
            refine ⟨by omega, by simp, .inl trivial, by simp; omega, by simp; omega, by omega, by omega, ?_⟩
            rw [e3, e4 4 (y ++ t)]
            refine ainv (next ⟨4, y ++ t⟩ (k3 + 1 + 1) (drawn_text (.inr rfl) u1 (by simp; omega)) rfl (by omega) (by omega)) (Shift.weak ?_)
            simp only [wk, go_sem, Nat.reduceAdd, Nat.reduceMul, Nat.reduceSub, Nat.reduceBEq, Nat.reduceLT, Nat.reduceLeDiff, reduceIte, reduceCtorEq, Int.reduceToNat, Int.reduceLE, Int.reduceLT, Int.reduceNe, Int.reduceMul, Int.reduceAdd, Int.reduceSub, Int.reduceDiv, Int.reduceMod, Int.reduceEq, Int.reduceGE, Int.reduceGT, Int.reduceNeg, Int.reduceBEq, Int.reduceBNe, Nat.reduceEqDiff]
          | false =>
            refine goF (N := 72) Tryz.ntmps107 300 ?_
            simp only [go_sem, Nat.reduceAdd, Nat.reduceMul, Nat.reduceSub, Nat.reduceBEq, Nat.reduceLT, Nat.reduceLeDiff, reduceIte, reduceCtorEq, Int.reduceToNat, Int.reduceLE, Int.reduceLT, Int.reduceNe, Int.reduceMul, Int.reduceAdd, Int.reduceSub, Int.reduceDiv, Int.reduceMod, Int.reduceEq, Int.reduceGE, Int.reduceGT, Int.reduceNeg, Int.reduceBEq, Int.reduceBNe, Nat.reduceEqDiff]
            refine ⟨by simp, .inl trivial, by simp; omega, by simp; omega, by omega, by omega, ?_⟩
            rw [e3, e4 4 t]
            refine ainv (next ⟨4, t⟩ (k3 + 1) (drawn_text (.inr rfl) (t1.weak wordC_text) (by omega)) rfl (by omega) (by omega)) (Shift.weak ?_)
            simp only [wk, go_sem, Nat.reduceAdd, Nat.reduceMul, Nat.reduceSub, Nat.reduceBEq, Nat.reduceLT, Nat.reduceLeDiff, reduceIte, reduceCtorEq, Int.reduceToNat, Int.reduceLE, Int.reduceLT, Int.reduceNe, Int.reduceMul, Int.reduceAdd, Int.reduceSub, Int.reduceDiv, Int.reduceMod, Int.reduceEq, Int.reduceGE, Int.reduceGT, Int.reduceNeg, Int.reduceBEq, Int.reduceBNe, Nat.reduceEqDiff]
        · intro Q hQ
          cases b with
          | true =>
            refine goF (N := 72) Tryz.ntmps107 300 ?_
            simp only [go_sem, Nat.reduceAdd, Nat.reduceMul, Nat.reduceSub, Nat.reduceBEq, Nat.reduceLT, Nat.reduceLeDiff, reduceIte, reduceCtorEq, Int.reduceToNat, Int.reduceLE, Int.reduceLT, Int.reduceNe, Int.reduceMul, Int.reduceAdd, Int.reduceSub, Int.reduceDiv, Int.reduceMod, Int.reduceEq, Int.reduceGE, Int.reduceGT, Int.reduceNeg, Int.reduceBEq, Int.reduceBNe, Nat.reduceEqDiff]
            refine mcall (pick_mc L (k' + 1) [2, 20] (by decide) (by decide) (by omega) (by omega)) rfl rfl (id := 0) rfl (N := 72) Tryz.ntmps107 rfl ?_
            rintro _ _ ⟨⟨x, hx, rfl⟩, rfl⟩
            have px : 1 ≤ x ∧ x ≤ 80 := (show ∀ x ∈ [(2 : Int), 20], 1 ≤ x ∧ x ≤ 80 by decide) x hx
            refine goF (N := 72) Tryz.ntmps107 300 ?_
            simp only [go_sem, Nat.reduceAdd, Nat.reduceMul, Nat.reduceSub, Nat.reduceBEq, Nat.reduceLT, Nat.reduceLeDiff, reduceIte, reduceCtorEq, Int.reduceToNat, Int.reduceLE, Int.reduceLT, Int.reduceNe, Int.reduceMul, Int.reduceAdd, Int.reduceSub, Int.reduceDiv, Int.reduceMod, Int.reduceEq, Int.reduceGE, Int.reduceGT, Int.reduceNeg, Int.reduceBEq, Int.reduceBNe, Nat.reduceEqDiff]
            refine mcall (words_mc L (k' + 1 + 1) x 200 px.1 px.2 (by omega) (by omega) (by omega) (by omega)) rfl rfl (id := 0) rfl (N := 72) Tryz.ntmps107 rfl ?_
            rintro _ _ ⟨t, k3, rfl, t1, t2, rfl, t3, t4⟩
            refine goF (N := 72) Tryz.ntmps107 300 ?_
            simp only [go_sem, Nat.reduceAdd, Nat.reduceMul, Nat.reduceSub, Nat.reduceBEq, Nat.reduceLT, Nat.reduceLeDiff, reduceIte, reduceCtorEq, Int.reduceToNat, Int.reduceLE, Int.reduceLT, Int.reduceNe, Int.reduceMul, Int.reduceAdd, Int.reduceSub, Int.reduceDiv, Int.reduceMod, Int.reduceEq, Int.reduceGE, Int.reduceGT, Int.reduceNeg, Int.reduceBEq, Int.reduceBNe, Nat.reduceEqDiff]
            have e3 : ∀ q u, List.map paA out ++ [AV.agg [.int .i64 q, .str u]] = List.map paA (out ++ [⟨q, u⟩]) := fun q u => by simp [paA]
            have e4 : ∀ q u, out.length + 1 = (out ++ [(⟨q, u⟩ : Pa)]).length := fun q u => by simp
            have dq : DrawnP ⟨3, t⟩ := drawn_aside t1 (by omega)
            have fol : followsL 3 e = true := by rcases g5 with rfl | rfl <;> rfl
            refine ⟨by simp, .inl trivial, by simp; omega, by simp; omega, ?_⟩
            rw [e3, e4 3 t]
            refine ainv (hQ (k3, 3, out ++ [⟨3, t⟩]) ⟨by simp only; omega, by simp only; omega, .inr (.inl rfl), fun l l2 l3 => runL_one (g7 l l2 l3) dq.ok fol, fun p hp => ?_, by simp, by simp; omega⟩) (Shift.weak ?_)
            · rcases List.mem_append.1 hp with hp | hp
              · exact g8 p hp
              · rw [List.mem_singleton.1 hp]; exact dq
            · simp only [wk, go_sem, Nat.reduceAdd, Nat.reduceMul, Nat.reduceSub, Nat.reduceBEq, Nat.reduceLT, Nat.reduceLeDiff, reduceIte, reduceCtorEq, Int.reduceToNat, Int.reduceLE, Int.reduceLT, Int.reduceNe, Int.reduceMul, Int.reduceAdd, Int.reduceSub, Int.reduceDiv, Int.reduceMod, Int.reduceEq, Int.reduceGE, Int.reduceGT, Int.reduceNeg, Int.reduceBEq, Int.reduceBNe, Nat.reduceEqDiff]
          | false =>
            refine goF (N := 72) Tryz.ntmps107 300 ?_
            simp only [go_sem, Nat.reduceAdd, Nat.reduceMul, Nat.reduceSub, Nat.reduceBEq, Nat.reduceLT, Nat.reduceLeDiff, reduceIte, reduceCtorEq, Int.reduceToNat, Int.reduceLE, Int.reduceLT, Int.reduceNe, Int.reduceMul, Int.reduceAdd, Int.reduceSub, Int.reduceDiv, Int.reduceMod, Int.reduceEq, Int.reduceGE, Int.reduceGT, Int.reduceNeg, Int.reduceBEq, Int.reduceBNe, Nat.reduceEqDiff]
            refine ainv (hQ (k' + 1, e, out) ⟨by simp only; omega, by simp only; omega, by simp only; omega, g7, g8, g9, by simp only; omega⟩) (Shift.weak ?_)
            simp only [wk, go_sem, Nat.reduceAdd, Nat.reduceMul, Nat.reduceSub, Nat.reduceBEq, Nat.reduceLT, Nat.reduceLeDiff, reduceIte, reduceCtorEq, Int.reduceToNat, Int.reduceLE, Int.reduceLT, Int.reduceNe, Int.reduceMul, Int.reduceAdd, Int.reduceSub, Int.reduceDiv, Int.reduceMod, Int.reduceEq, Int.reduceGE, Int.reduceGT, Int.reduceNeg, Int.reduceBEq, Int.reduceBNe, Nat.reduceEqDiff]
      · have di : decide (i < n) = false := by simp; omega
        simp only [go_sem, Nat.reduceAdd, Nat.reduceMul, Nat.reduceSub, Nat.reduceBEq, Nat.reduceLT, Nat.reduceLeDiff, reduceIte, reduceCtorEq, Int.reduceToNat, Int.reduceLE, Int.reduceLT, Int.reduceNe, Int.reduceMul, Int.reduceAdd, Int.reduceSub, Int.reduceDiv, Int.reduceMod, Int.reduceEq, Int.reduceGE, Int.reduceGT, Int.reduceNeg, Int.reduceBEq, Int.reduceBNe, Nat.reduceEqDiff, di]
        have i0 : i = n := by omega
        have e4 := g6 (by omega)
        refine ARet.shift (Shift.freeze 2 (id := 1) rfl rfl (by simp) (Nat.le_refl _) (frozen_paras out)) (aret [2] rfl ⟨_, _, rfl, ⟨out, k', ?_, ⟨fun l l2 l3 => ⟨e, g7 l l2 l3, by omega, by omega⟩, ⟨g9, by omega⟩, g8⟩, rfl, by omega, by omega⟩, rfl, rfl⟩)
        simp [resV, Av.get, Av.put, List.take_of_length_le]
end Go.Proofs.YtpjbbpilgfihbaaGreatDoor
/- Somebody's part of a scene. Own work of this seat. -/
set_option maxRecDepth 100000
set_option linter.unusedSimpArgs false
set_option linter.unusedVariables false
namespace Go.Proofs.YtpjbbpilgfihbaaGreatDoor
open Go Go.Av Go.RowKit
attribute [local go_sem ↓] br_true br_false dbr_true dbr_false dbri_true dbri_false dbrg_true dbrg_false
attribute [local go_sem] run cont br dbr dx dxc dgrd dyld dres dcall calm fieldPlace? allHas step1 opN grdN resN condN exitN stopN exitIt dOk xop xbin xint xarith xstr xbool xpick xnot xneg xextract xpart xpartOk xindex xfieldF fieldD xnew xbox xalloc xfieldAddr xptrAddIf xindexAddr xloadC xload putCells reElem xstoreB xstore xconv xtext xlen xlen2 xcall xfill xbuild cut rep xbuildSlice xbuildSliceD isRow elemD isU8 ev evs evp Go.Av.put Go.Av.get ofConst yldD yldV notBool_undef args0 cellsOf cond_true cond_false decide_true decide_false decide_eq_true_eq decide_eq_false_iff_not List.getElem?_cons_zero List.getElem?_cons_succ List.getElem?_nil List.getD_cons_zero List.getD_cons_succ List.getD_nil List.set_cons_zero List.set_cons_succ List.length_cons List.length_nil List.cons_append List.nil_append List.append_nil List.all_cons List.all_nil List.map_cons List.map_nil List.take_succ_cons List.take_zero List.drop_succ_cons List.drop_zero Bool.and_true Bool.true_and Bool.and_self Bool.and_false Bool.false_and one Go.Av.frozen beq_self_eq_true true_and and_true forall_const false_implies implies_true and_self Option.map_some Option.map_none Nat.zero_add Nat.add_zero Nat.zero_mul Nat.mul_one Nat.one_mul Int.toNat_zero ne_eq not_false_eq_true not_true_eq_false Bool.true_eq_false Bool.false_eq_true List.toList_toArray inr Go.Av.byteOf isByte decide_eq_decide Bool.not_true Bool.not_false Bool.not_eq_true' Bool.or_true Bool.true_or Bool.or_false Bool.false_or ge_iff_le gt_iff_lt and_assoc Bool.decide_eq_true beq_iff_eq beq_eq_false_iff_ne bne_iff_ne bne_self_eq_false if_true if_false Bool.and_eq_true Bool.or_eq_true Bool.and_eq_false_imp Bool.or_eq_false_iff Bool.not_eq_false' has Option.isSome_some Option.isSome_none Int.toNat_natCast Int.cast_ofNat_Int List.length_append xapp2 xapp xappS xappD xappB notInt srcOf srcB byteAV splice' xcut xcutS xcutF xcutB xcutN xcut0 cutL loOf hiOf evo xmake zelem xmax xcopy2 xcopyS xcopyB xnil xcut3 ixOf xclear2 xclearB List.getElem?_toArray xbin2 xnileq xempty xmkmap xmput xmputB xmputF isKey keyEq mfind xbin3 xeqs xeqop eqFs bothB leafEq xlook xlookB xlookF xbytes beq_c_n beq_n_c bne_c_n bne_n_c one_nil dxi dxic dbri rix dck reader blind opOk refOk Go.Op.operands Go.Call.operands List.contains_cons List.contains_nil dxg dxgc dbrg pck putD List.lookup_cons List.lookup_nil ts2 tb2 zl2 za2 Tryz.underlying2 ts3 tb3 zl3 za3 Tryz.underlying3 ts4 tb4 zl4 za4 Tryz.underlying4 ts5 tb5 zl5 za5 Tryz.underlying5 ts6 tb6 zl6 za6 Tryz.underlying6 ts7 tb7 za7 Tryz.underlying7 ts8 tb8 za8 Tryz.underlying8 ts9 tb9 zl9 za9 Tryz.underlying9 ts10 tb10 zl10 za10 Tryz.underlying10 ts11 tb11 zl11 za11 Tryz.underlying11 ts12 tb12 zl12 za12 Tryz.underlying12 ts13 tb13 za13 Tryz.underlying13 ts14 tb14 za14 Tryz.underlying14 ts18 tb18 za18 Tryz.underlying18 ts19 tb19 za19 Tryz.underlying19 ts21 tb21 zl21 za21 Tryz.underlying21 ts22 tb22 zl22 za22 Tryz.underlying22 ts24 tb24 za24 Tryz.underlying24 ts25 tb25 za25 Tryz.underlying25 ts27 tb27 zl27 za27 Tryz.underlying27 ts35 tb35 zl35 za35 Tryz.underlying35 ts36 tb36 za36 Tryz.underlying36 ts37 tb37 za37 Tryz.underlying37 ts39 tb39 zl39 za39 Tryz.underlying39 ts41 tb41 za41 Tryz.underlying41 ts42 tb42 za42 Tryz.underlying42 ts63 tb63 zl63 za63 Tryz.underlying63 ts64 tb64 zl64 za64 Tryz.underlying64 ts65 tb65 za65 Tryz.underlying65 ts66 tb66 za66 Tryz.underlying66 ts67 tb67 zl67 za67 Tryz.underlying67 ts69 tb69 za69 Tryz.underlying69 ts70 tb70 za70 Tryz.underlying70 ts73 tb73 za73 Tryz.underlying73 ts74 tb74 za74 Tryz.underlying74 ts75 tb75 zl75 za75 Tryz.underlying75 ts82 tb82 zl82 za82 Tryz.underlying82 ts96 tb96 za96 Tryz.underlying96 ts97 tb97 za97 Tryz.underlying97 ts103 tb103 za103 Tryz.underlying103 ts104 tb104 za104 Tryz.underlying104 ts109 tb109 zl109 za109 Tryz.underlying109 ts116 tb116 zl116 za116 Tryz.underlying116 ts117 tb117 za117 Tryz.underlying117 ts118 tb118 za118 Tryz.underlying118 ts120 tb120 zl120 za120 Tryz.underlying120 ts124 tb124 zl124 za124 Tryz.underlying124 ts126 tb126 za126 Tryz.underlying126 ts128 tb128 zl128 za128 Tryz.underlying128 ts130 tb130 za130 Tryz.underlying130 ts131 tb131 za131 Tryz.underlying131 ts153 tb153 zl153 za153 Tryz.underlying153 ts167 tb167 zl167 za167 Tryz.underlying167 ts171 tb171 zl171 za171 Tryz.underlying171 ts177 tb177 zl177 za177 Tryz.underlying177 ts183 tb183 zl183 za183 Tryz.underlying183 ts189 tb189 zl189 za189 Tryz.underlying189 ts191 tb191 zl191 za191 Tryz.underlying191 ts195 tb195 za195 Tryz.underlying195 ts196 tb196 za196 Tryz.underlying196 ts198 tb198 zl198 za198 Tryz.underlying198 ts203 tb203 Tryz.underlying203 ts209 tb209 za209 Tryz.underlying209 ts210 tb210 za210 Tryz.underlying210 ts211 tb211 Tryz.underlying211 ts216 tb216 za216 Tryz.underlying216 ts217 tb217 za217 Tryz.underlying217 ts220 tb220 Tryz.underlying220 ts225 tb225 Tryz.underlying225 ts226 tb226 Tryz.underlying226 ts227 tb227 za227 Tryz.underlying227 ts228 tb228 za228 Tryz.underlying228 ts232 tb232 zl232 za232 Tryz.underlying232 ts233 tb233 zl233 za233 Tryz.underlying233 ts235 tb235 zl235 za235 Tryz.underlying235 ts236 tb236 zl236 za236 Tryz.underlying236 ts237 tb237 za237 Tryz.underlying237 ts238 tb238 za238 Tryz.underlying238

def GOk (n i : Nat) (out : List (Nat × Nat)) : Prop := i ≤ n ∧ ∀ g ∈ out, g.1 < g.2 ∧ g.2 ≤ i
theorem gstep_ok {n i : Nat} {out : List (Nat × Nat)} {p : Pa} (h : GOk n i out) (hi : i < n) : GOk n (i + 1) (gstep out i p) := by
  refine ⟨by omega, fun g hg => ?_⟩
  unfold gstep at hg
  split at hg
  · by_cases hl : out.length = 0
    · have : out = [] := List.length_eq_zero_iff.1 hl
      subst this
      simp at hg
    · rcases List.mem_or_eq_of_mem_set hg with h1 | h1
      · have := h.2 g h1; omega
      · have hlt : out.length - 1 < out.length := by omega
        have hm : out.getD (out.length - 1) (0, 0) ∈ out := by
          rw [List.getD_eq_getElem?_getD, List.getElem?_eq_getElem hlt]
          exact List.getElem_mem hlt
        have := h.2 _ hm
        rw [h1]
        simp only
        omega
  · rcases List.mem_append.1 hg with h1 | h1
    · have := h.2 g h1; omega
    · rw [List.mem_singleton.1 h1]; simp
theorem gfold_ok {n : Nat} : ∀ {ps : List Pa} {i : Nat} {out : List (Nat × Nat)}, GOk n i out → i + ps.length = n → GOk n n (gfold out i ps)
  | [], i, out, h, hn => by
    simp only [List.length_nil, Nat.add_zero] at hn
    subst hn; exact h
  | p :: r, i, out, h, hn => by
    simp only [List.length_cons] at hn
    show GOk n n (gfold (gstep out i p) (i + 1) r)
    exact gfold_ok (gstep_ok h (by omega)) (by omega)
theorem groups_ok (ps : List Pa) : ∀ g ∈ groupsL ps, g.1 < g.2 ∧ g.2 ≤ ps.length :=
  (gfold_ok (n := ps.length) (ps := ps) (i := 0) (out := []) ⟨by omega, by simp⟩ (by omega)).2
def pNo : Pa := ⟨0, []⟩
def isCue (p : Pa) (name : List UInt8) : Bool := p.kind == 2 && p.text == name
def headP (ps : List Pa) (gs : List (Nat × Nat)) (k : Nat) : Pa := ps.getD (gs.getD k (0, 0)).1 pNo
def ownB (ps : List Pa) (name : List UInt8) (ws : List (List UInt8)) (gs : List (Nat × Nat)) (k : Nat) : Bool :=
  isCue (headP ps gs k) name || (((headP ps gs k).kind == 2 && (decide (k + 1 < gs.length) && isCue (headP ps gs (k + 1)) name)) ||
    ((headP ps gs k).kind != 2 && (decide (0 < ws.length) && decide (0 < (foundL (wordsL (headP ps gs k).text) ws).length))))
def cutP (ps : List Pa) (g : Nat × Nat) : List Pa := (ps.take g.2).drop g.1
def partTo (ps : List Pa) (name : List UInt8) (ws : List (List UInt8)) (gs : List (Nat × Nat)) : Nat → List Pa
  | 0 => []
  | k + 1 => partTo ps name ws gs k ++ (if ownB ps name ws gs k then cutP ps (gs.getD k (0, 0)) else [])
def partL (ps : List Pa) (name : List UInt8) : List Pa := partTo ps name (wordsL name) (groupsL ps) (groupsL ps).length
end Go.Proofs.YtpjbbpilgfihbaaGreatDoor
/- Who speaks in a scene; times of scenes. Own work of this seat. -/
set_option maxRecDepth 100000
set_option linter.unusedSimpArgs false
set_option linter.unusedVariables false
namespace Go.Proofs.YtpjbbpilgfihbaaGreatDoor
open Go Go.Av Go.RowKit
attribute [local go_sem ↓] br_true br_false dbr_true dbr_false dbri_true dbri_false dbrg_true dbrg_false
attribute [local go_sem] run cont br dbr dx dxc dgrd dyld dres dcall calm fieldPlace? allHas step1 opN grdN resN condN exitN stopN exitIt dOk xop xbin xint xarith xstr xbool xpick xnot xneg xextract xpart xpartOk xindex xfieldF fieldD xnew xbox xalloc xfieldAddr xptrAddIf xindexAddr xloadC xload putCells reElem xstoreB xstore xconv xtext xlen xlen2 xcall xfill xbuild cut rep xbuildSlice xbuildSliceD isRow elemD isU8 ev evs evp Go.Av.put Go.Av.get ofConst yldD yldV notBool_undef args0 cellsOf cond_true cond_false decide_true decide_false decide_eq_true_eq decide_eq_false_iff_not List.getElem?_cons_zero List.getElem?_cons_succ List.getElem?_nil List.getD_cons_zero List.getD_cons_succ List.getD_nil List.set_cons_zero List.set_cons_succ List.length_cons List.length_nil List.cons_append List.nil_append List.append_nil List.all_cons List.all_nil List.map_cons List.map_nil List.take_succ_cons List.take_zero List.drop_succ_cons List.drop_zero Bool.and_true Bool.true_and Bool.and_self Bool.and_false Bool.false_and one Go.Av.frozen beq_self_eq_true true_and and_true forall_const false_implies implies_true and_self Option.map_some Option.map_none Nat.zero_add Nat.add_zero Nat.zero_mul Nat.mul_one Nat.one_mul Int.toNat_zero ne_eq not_false_eq_true not_true_eq_false Bool.true_eq_false Bool.false_eq_true List.toList_toArray inr Go.Av.byteOf isByte decide_eq_decide Bool.not_true Bool.not_false Bool.not_eq_true' Bool.or_true Bool.true_or Bool.or_false Bool.false_or ge_iff_le gt_iff_lt and_assoc Bool.decide_eq_true beq_iff_eq beq_eq_false_iff_ne bne_iff_ne bne_self_eq_false if_true if_false Bool.and_eq_true Bool.or_eq_true Bool.and_eq_false_imp Bool.or_eq_false_iff Bool.not_eq_false' has Option.isSome_some Option.isSome_none Int.toNat_natCast Int.cast_ofNat_Int List.length_append xapp2 xapp xappS xappD xappB notInt srcOf srcB byteAV splice' xcut xcutS xcutF xcutB xcutN xcut0 cutL loOf hiOf evo xmake zelem xmax xcopy2 xcopyS xcopyB xnil xcut3 ixOf xclear2 xclearB List.getElem?_toArray xbin2 xnileq xempty xmkmap xmput xmputB xmputF isKey keyEq mfind xbin3 xeqs xeqop eqFs bothB leafEq xlook xlookB xlookF xbytes beq_c_n beq_n_c bne_c_n bne_n_c one_nil dxi dxic dbri rix dck reader blind opOk refOk Go.Op.operands Go.Call.operands List.contains_cons List.contains_nil dxg dxgc dbrg pck putD List.lookup_cons List.lookup_nil ts2 tb2 zl2 za2 Tryz.underlying2 ts3 tb3 zl3 za3 Tryz.underlying3 ts4 tb4 zl4 za4 Tryz.underlying4 ts5 tb5 zl5 za5 Tryz.underlying5 ts6 tb6 zl6 za6 Tryz.underlying6 ts7 tb7 za7 Tryz.underlying7 ts8 tb8 za8 Tryz.underlying8 ts9 tb9 zl9 za9 Tryz.underlying9 ts10 tb10 zl10 za10 Tryz.underlying10 ts11 tb11 zl11 za11 Tryz.underlying11 ts12 tb12 zl12 za12 Tryz.underlying12 ts13 tb13 za13 Tryz.underlying13 ts14 tb14 za14 Tryz.underlying14 ts18 tb18 za18 Tryz.underlying18 ts19 tb19 za19 Tryz.underlying19 ts21 tb21 zl21 za21 Tryz.underlying21 ts22 tb22 zl22 za22 Tryz.underlying22 ts24 tb24 za24 Tryz.underlying24 ts25 tb25 za25 Tryz.underlying25 ts27 tb27 zl27 za27 Tryz.underlying27 ts35 tb35 zl35 za35 Tryz.underlying35 ts36 tb36 za36 Tryz.underlying36 ts37 tb37 za37 Tryz.underlying37 ts39 tb39 zl39 za39 Tryz.underlying39 ts41 tb41 za41 Tryz.underlying41 ts42 tb42 za42 Tryz.underlying42 ts63 tb63 zl63 za63 Tryz.underlying63 ts64 tb64 zl64 za64 Tryz.underlying64 ts65 tb65 za65 Tryz.underlying65 ts66 tb66 za66 Tryz.underlying66 ts67 tb67 zl67 za67 Tryz.underlying67 ts69 tb69 za69 Tryz.underlying69 ts70 tb70 za70 Tryz.underlying70 ts73 tb73 za73 Tryz.underlying73 ts74 tb74 za74 Tryz.underlying74 ts75 tb75 zl75 za75 Tryz.underlying75 ts82 tb82 zl82 za82 Tryz.underlying82 ts96 tb96 za96 Tryz.underlying96 ts97 tb97 za97 Tryz.underlying97 ts103 tb103 za103 Tryz.underlying103 ts104 tb104 za104 Tryz.underlying104 ts109 tb109 zl109 za109 Tryz.underlying109 ts116 tb116 zl116 za116 Tryz.underlying116 ts117 tb117 za117 Tryz.underlying117 ts118 tb118 za118 Tryz.underlying118 ts120 tb120 zl120 za120 Tryz.underlying120 ts124 tb124 zl124 za124 Tryz.underlying124 ts126 tb126 za126 Tryz.underlying126 ts128 tb128 zl128 za128 Tryz.underlying128 ts130 tb130 za130 Tryz.underlying130 ts131 tb131 za131 Tryz.underlying131 ts153 tb153 zl153 za153 Tryz.underlying153 ts167 tb167 zl167 za167 Tryz.underlying167 ts171 tb171 zl171 za171 Tryz.underlying171 ts177 tb177 zl177 za177 Tryz.underlying177 ts183 tb183 zl183 za183 Tryz.underlying183 ts189 tb189 zl189 za189 Tryz.underlying189 ts191 tb191 zl191 za191 Tryz.underlying191 ts195 tb195 za195 Tryz.underlying195 ts196 tb196 za196 Tryz.underlying196 ts198 tb198 zl198 za198 Tryz.underlying198 ts203 tb203 Tryz.underlying203 ts209 tb209 za209 Tryz.underlying209 ts210 tb210 za210 Tryz.underlying210 ts211 tb211 Tryz.underlying211 ts216 tb216 za216 Tryz.underlying216 ts217 tb217 za217 Tryz.underlying217 ts220 tb220 Tryz.underlying220 ts225 tb225 Tryz.underlying225 ts226 tb226 Tryz.underlying226 ts227 tb227 za227 Tryz.underlying227 ts228 tb228 za228 Tryz.underlying228 ts232 tb232 zl232 za232 Tryz.underlying232 ts233 tb233 zl233 za233 Tryz.underlying233 ts235 tb235 zl235 za235 Tryz.underlying235 ts236 tb236 zl236 za236 Tryz.underlying236 ts237 tb237 za237 Tryz.underlying237 ts238 tb238 za238 Tryz.underlying238

theorem frozen_ints (l : List Int) : (flat (l.map (AV.int .i64))).all Av.frozen = true := by
  induction l with
  | nil => rfl
  | cons y l ih => simpa [flat, cellsOf, Av.frozen] using ih

end Go.Proofs.YtpjbbpilgfihbaaGreatDoor
/- Headings, paragraphs and scenes, at the constants of the law's own script. Own work of this seat. -/
set_option maxRecDepth 100000
set_option linter.unusedSimpArgs false
set_option linter.unusedVariables false
namespace Go.Proofs.YtpjbbpilgfihbaaGreatDoor
open Go Go.Av Go.RowKit
attribute [local go_sem ↓] br_true br_false dbr_true dbr_false dbri_true dbri_false dbrg_true dbrg_false
attribute [local go_sem] run cont br dbr dx dxc dgrd dyld dres dcall calm fieldPlace? allHas step1 opN grdN resN condN exitN stopN exitIt dOk xop xbin xint xarith xstr xbool xpick xnot xneg xextract xpart xpartOk xindex xfieldF fieldD xnew xbox xalloc xfieldAddr xptrAddIf xindexAddr xloadC xload putCells reElem xstoreB xstore xconv xtext xlen xlen2 xcall xfill xbuild cut rep xbuildSlice xbuildSliceD isRow elemD isU8 ev evs evp Go.Av.put Go.Av.get ofConst yldD yldV notBool_undef args0 cellsOf cond_true cond_false decide_true decide_false decide_eq_true_eq decide_eq_false_iff_not List.getElem?_cons_zero List.getElem?_cons_succ List.getElem?_nil List.getD_cons_zero List.getD_cons_succ List.getD_nil List.set_cons_zero List.set_cons_succ List.length_cons List.length_nil List.cons_append List.nil_append List.append_nil List.all_cons List.all_nil List.map_cons List.map_nil List.take_succ_cons List.take_zero List.drop_succ_cons List.drop_zero Bool.and_true Bool.true_and Bool.and_self Bool.and_false Bool.false_and one Go.Av.frozen beq_self_eq_true true_and and_true forall_const false_implies implies_true and_self Option.map_some Option.map_none Nat.zero_add Nat.add_zero Nat.zero_mul Nat.mul_one Nat.one_mul Int.toNat_zero ne_eq not_false_eq_true not_true_eq_false Bool.true_eq_false Bool.false_eq_true List.toList_toArray inr Go.Av.byteOf isByte decide_eq_decide Bool.not_true Bool.not_false Bool.not_eq_true' Bool.or_true Bool.true_or Bool.or_false Bool.false_or ge_iff_le gt_iff_lt and_assoc Bool.decide_eq_true beq_iff_eq beq_eq_false_iff_ne bne_iff_ne bne_self_eq_false if_true if_false Bool.and_eq_true Bool.or_eq_true Bool.and_eq_false_imp Bool.or_eq_false_iff Bool.not_eq_false' has Option.isSome_some Option.isSome_none Int.toNat_natCast Int.cast_ofNat_Int List.length_append xapp2 xapp xappS xappD xappB notInt srcOf srcB byteAV splice' xcut xcutS xcutF xcutB xcutN xcut0 cutL loOf hiOf evo xmake zelem xmax xcopy2 xcopyS xcopyB xnil xcut3 ixOf xclear2 xclearB List.getElem?_toArray xbin2 xnileq xempty xmkmap xmput xmputB xmputF isKey keyEq mfind xbin3 xeqs xeqop eqFs bothB leafEq xlook xlookB xlookF xbytes beq_c_n beq_n_c bne_c_n bne_n_c one_nil dxi dxic dbri rix dck reader blind opOk refOk Go.Op.operands Go.Call.operands List.contains_cons List.contains_nil dxg dxgc dbrg pck putD List.lookup_cons List.lookup_nil ts2 tb2 zl2 za2 Tryz.underlying2 ts3 tb3 zl3 za3 Tryz.underlying3 ts4 tb4 zl4 za4 Tryz.underlying4 ts5 tb5 zl5 za5 Tryz.underlying5 ts6 tb6 zl6 za6 Tryz.underlying6 ts7 tb7 za7 Tryz.underlying7 ts8 tb8 za8 Tryz.underlying8 ts9 tb9 zl9 za9 Tryz.underlying9 ts10 tb10 zl10 za10 Tryz.underlying10 ts11 tb11 zl11 za11 Tryz.underlying11 ts12 tb12 zl12 za12 Tryz.underlying12 ts13 tb13 za13 Tryz.underlying13 ts14 tb14 za14 Tryz.underlying14 ts18 tb18 za18 Tryz.underlying18 ts19 tb19 za19 Tryz.underlying19 ts21 tb21 zl21 za21 Tryz.underlying21 ts22 tb22 zl22 za22 Tryz.underlying22 ts24 tb24 za24 Tryz.underlying24 ts25 tb25 za25 Tryz.underlying25 ts27 tb27 zl27 za27 Tryz.underlying27 ts35 tb35 zl35 za35 Tryz.underlying35 ts36 tb36 za36 Tryz.underlying36 ts37 tb37 za37 Tryz.underlying37 ts39 tb39 zl39 za39 Tryz.underlying39 ts41 tb41 za41 Tryz.underlying41 ts42 tb42 za42 Tryz.underlying42 ts63 tb63 zl63 za63 Tryz.underlying63 ts64 tb64 zl64 za64 Tryz.underlying64 ts65 tb65 za65 Tryz.underlying65 ts66 tb66 za66 Tryz.underlying66 ts67 tb67 zl67 za67 Tryz.underlying67 ts69 tb69 za69 Tryz.underlying69 ts70 tb70 za70 Tryz.underlying70 ts73 tb73 za73 Tryz.underlying73 ts74 tb74 za74 Tryz.underlying74 ts75 tb75 zl75 za75 Tryz.underlying75 ts82 tb82 zl82 za82 Tryz.underlying82 ts96 tb96 za96 Tryz.underlying96 ts97 tb97 za97 Tryz.underlying97 ts103 tb103 za103 Tryz.underlying103 ts104 tb104 za104 Tryz.underlying104 ts109 tb109 zl109 za109 Tryz.underlying109 ts116 tb116 zl116 za116 Tryz.underlying116 ts117 tb117 za117 Tryz.underlying117 ts118 tb118 za118 Tryz.underlying118 ts120 tb120 zl120 za120 Tryz.underlying120 ts124 tb124 zl124 za124 Tryz.underlying124 ts126 tb126 za126 Tryz.underlying126 ts128 tb128 zl128 za128 Tryz.underlying128 ts130 tb130 za130 Tryz.underlying130 ts131 tb131 za131 Tryz.underlying131 ts153 tb153 zl153 za153 Tryz.underlying153 ts167 tb167 zl167 za167 Tryz.underlying167 ts171 tb171 zl171 za171 Tryz.underlying171 ts177 tb177 zl177 za177 Tryz.underlying177 ts183 tb183 zl183 za183 Tryz.underlying183 ts189 tb189 zl189 za189 Tryz.underlying189 ts191 tb191 zl191 za191 Tryz.underlying191 ts195 tb195 za195 Tryz.underlying195 ts196 tb196 za196 Tryz.underlying196 ts198 tb198 zl198 za198 Tryz.underlying198 ts203 tb203 Tryz.underlying203 ts209 tb209 za209 Tryz.underlying209 ts210 tb210 za210 Tryz.underlying210 ts211 tb211 Tryz.underlying211 ts216 tb216 za216 Tryz.underlying216 ts217 tb217 za217 Tryz.underlying217 ts220 tb220 Tryz.underlying220 ts225 tb225 Tryz.underlying225 ts226 tb226 Tryz.underlying226 ts227 tb227 za227 Tryz.underlying227 ts228 tb228 za228 Tryz.underlying228 ts232 tb232 zl232 za232 Tryz.underlying232 ts233 tb233 zl233 za233 Tryz.underlying233 ts235 tb235 zl235 za235 Tryz.underlying235 ts236 tb236 zl236 za236 Tryz.underlying236 ts237 tb237 za237 Tryz.underlying237 ts238 tb238 za238 Tryz.underlying238





def placeW : List AV := [.str [], .str [73, 78, 84, 46], .str [69, 88, 84, 46], .str [73, 78, 84, 46, 47, 69, 88, 84, 46]]
def timeW : List AV := [.str [], .str [68, 65, 89], .str [78, 73, 71, 72, 84], .str [68, 65, 87, 78], .str [68, 85, 83, 75], .str [76, 65, 84, 69, 82]]

theorem place_pc : Pc Tryz.prog 140 [] (· = .fz 1 placeW) := by
  refine pc_intro (ct_intro Tryz.func140 rfl Tryz.ntmps140 hB140 (by simp) fun h ρ w => goF (N := 2) Tryz.ntmps140 200 ?_)
  simp only [go_sem, Nat.reduceAdd, Nat.reduceMul, Nat.reduceSub, Nat.reduceBEq, Nat.reduceLT, Nat.reduceLeDiff, reduceIte, reduceCtorEq, Int.reduceToNat, Int.reduceLE, Int.reduceLT, Int.reduceNe, Int.reduceMul, Int.reduceAdd, Int.reduceSub, Int.reduceDiv, Int.reduceMod, Int.reduceEq, Int.reduceGE, Int.reduceGT, Int.reduceNeg, Int.reduceBEq, Int.reduceBNe, Nat.reduceEqDiff]
  exact aret [0] rfl ⟨by simp [resV, Av.get, placeW], rfl⟩

theorem time_pc : Pc Tryz.prog 141 [] (· = .fz 1 timeW) := by
  refine pc_intro (ct_intro Tryz.func141 rfl Tryz.ntmps141 hB141 (by simp) fun h ρ w => goF (N := 2) Tryz.ntmps141 200 ?_)
  simp only [go_sem, Nat.reduceAdd, Nat.reduceMul, Nat.reduceSub, Nat.reduceBEq, Nat.reduceLT, Nat.reduceLeDiff, reduceIte, reduceCtorEq, Int.reduceToNat, Int.reduceLE, Int.reduceLT, Int.reduceNe, Int.reduceMul, Int.reduceAdd, Int.reduceSub, Int.reduceDiv, Int.reduceMod, Int.reduceEq, Int.reduceGE, Int.reduceGT, Int.reduceNeg, Int.reduceBEq, Int.reduceBNe, Nat.reduceEqDiff]
  exact aret [0] rfl ⟨by simp [resV, Av.get, timeW], rfl⟩

def paraA : AV := .agg [.int .i64 1, .str [82, 97, 105, 110, 46]]
def sceneA : AV := .agg [.str [], .int .i64 1, .str [72, 65, 76, 76], .int .i64 1, .fz 2 [.agg [.int .i64 1, .str [82, 97, 105, 110, 46]]]]
theorem heading_pc : Pc Tryz.prog 98 [sceneA] (· = .str [73, 78, 84, 46, 32, 72, 65, 76, 76, 32, 45, 32, 68, 65, 89]) := by
  refine pc_intro (ct_intro Tryz.func98 rfl Tryz.ntmps98 hB98 (by simp) fun h ρ w => go (N := 29) Tryz.ntmps98 200 ?_)
  simp only [go_sem, Nat.reduceAdd, Nat.reduceMul, Nat.reduceSub, Nat.reduceBEq, Nat.reduceLT, Nat.reduceLeDiff, reduceIte, reduceCtorEq, Int.reduceToNat, Int.reduceLE, Int.reduceLT, Int.reduceNe, Int.reduceMul, Int.reduceAdd, Int.reduceSub, Int.reduceDiv, Int.reduceMod, Int.reduceEq, Int.reduceGE, Int.reduceGT, Int.reduceNeg, Int.reduceBEq, Int.reduceBNe, Nat.reduceEqDiff, sceneA]
  refine adraw [.fz 1 placeW, .fz 1 timeW] mixed (by decide) (N := 29) Tryz.ntmps98 (by decide) 100 ?_
  simp only [go_sem, Nat.reduceAdd, Nat.reduceMul, Nat.reduceSub, Nat.reduceBEq, Nat.reduceLT, Nat.reduceLeDiff, reduceIte, reduceCtorEq, Int.reduceToNat, Int.reduceLE, Int.reduceLT, Int.reduceNe, Int.reduceMul, Int.reduceAdd, Int.reduceSub, Int.reduceDiv, Int.reduceMod, Int.reduceEq, Int.reduceGE, Int.reduceGT, Int.reduceNeg, Int.reduceBEq, Int.reduceBNe, Nat.reduceEqDiff, sceneA, placeW, timeW]
  refine ⟨place_pc.at, time_pc.at, ?_⟩
  refine go (N := 29) Tryz.ntmps98 200 ?_
  simp only [go_sem, Nat.reduceAdd, Nat.reduceMul, Nat.reduceSub, Nat.reduceBEq, Nat.reduceLT, Nat.reduceLeDiff, reduceIte, reduceCtorEq, Int.reduceToNat, Int.reduceLE, Int.reduceLT, Int.reduceNe, Int.reduceMul, Int.reduceAdd, Int.reduceSub, Int.reduceDiv, Int.reduceMod, Int.reduceEq, Int.reduceGE, Int.reduceGT, Int.reduceNeg, Int.reduceBEq, Int.reduceBNe, Nat.reduceEqDiff, sceneA]
  exact aret [2] rfl ⟨by simp [resV, Av.get], rfl⟩

theorem escaped_pc (c : UInt8) (s o : List UInt8) (hs : s.length < 1000000) (hn : Lib.indexByte o c < 0) : Pc Tryz.prog 142 [.str (c :: s), .str o] (· = .str (c :: s)) := by
  refine pc_intro (ct_intro Tryz.func142 rfl Tryz.ntmps142 hB142 (by simp) fun h ρ w => go (N := 13) Tryz.ntmps142 200 ?_)
  simp only [go_sem, Nat.reduceAdd, Nat.reduceMul, Nat.reduceSub, Nat.reduceBEq, Nat.reduceLT, Nat.reduceLeDiff, reduceIte, reduceCtorEq, Int.reduceToNat, Int.reduceLE, Int.reduceLT, Int.reduceNe, Int.reduceMul, Int.reduceAdd, Int.reduceSub, Int.reduceDiv, Int.reduceMod, Int.reduceEq, Int.reduceGE, Int.reduceGT, Int.reduceNeg, Int.reduceBEq, Int.reduceBNe, Nat.reduceEqDiff]
  refine ⟨by omega, ?_⟩
  refine pcall1 (indexByte_pc o (c.toNat : Int)) rfl (N := 13) Tryz.ntmps142 rfl (go (N := 13) Tryz.ntmps142 300 ?_)
  have h0 : decide (0 ≤ Lib.indexByte o c.toNat.toUInt8) = false := by simp; omega
  simp only [go_sem, Nat.reduceAdd, Nat.reduceMul, Nat.reduceSub, Nat.reduceBEq, Nat.reduceLT, Nat.reduceLeDiff, reduceIte, reduceCtorEq, Int.reduceToNat, Int.reduceLE, Int.reduceLT, Int.reduceNe, Int.reduceMul, Int.reduceAdd, Int.reduceSub, Int.reduceDiv, Int.reduceMod, Int.reduceEq, Int.reduceGE, Int.reduceGT, Int.reduceNeg, Int.reduceBEq, Int.reduceBNe, Nat.reduceEqDiff, h0]
  exact aret [4] rfl ⟨by simp [resV, Av.get], rfl⟩

theorem para_pc : Pc Tryz.prog 99 [paraA] (· = .str [82, 97, 105, 110, 46]) := by
  refine pc_intro (ct_intro Tryz.func99 rfl Tryz.ntmps99 hB99 (by simp) fun h ρ w => go (N := 29) Tryz.ntmps99 200 ?_)
  simp only [go_sem, Nat.reduceAdd, Nat.reduceMul, Nat.reduceSub, Nat.reduceBEq, Nat.reduceLT, Nat.reduceLeDiff, reduceIte, reduceCtorEq, Int.reduceToNat, Int.reduceLE, Int.reduceLT, Int.reduceNe, Int.reduceMul, Int.reduceAdd, Int.reduceSub, Int.reduceDiv, Int.reduceMod, Int.reduceEq, Int.reduceGE, Int.reduceGT, Int.reduceNeg, Int.reduceBEq, Int.reduceBNe, Nat.reduceEqDiff, paraA]
  refine pcall1 (escaped_pc 82 [97, 105, 110, 46] [64, 62, 35, 92] (by decide) (by decide)) rfl (N := 29) Tryz.ntmps99 rfl (go (N := 29) Tryz.ntmps99 300 ?_)
  simp only [go_sem, Nat.reduceAdd, Nat.reduceMul, Nat.reduceSub, Nat.reduceBEq, Nat.reduceLT, Nat.reduceLeDiff, reduceIte, reduceCtorEq, Int.reduceToNat, Int.reduceLE, Int.reduceLT, Int.reduceNe, Int.reduceMul, Int.reduceAdd, Int.reduceSub, Int.reduceDiv, Int.reduceMod, Int.reduceEq, Int.reduceGE, Int.reduceGT, Int.reduceNeg, Int.reduceBEq, Int.reduceBNe, Nat.reduceEqDiff]
  exact aret [2] rfl ⟨by simp [resV, Av.get], rfl⟩

theorem followsT_pc : Pc Tryz.prog 118 [.int .i64 1, .int .i64 0] (· = .bool true) := by
  refine pc_intro (ct_intro Tryz.func118 rfl Tryz.ntmps118 hB118 (by simp) fun h ρ w => go (N := 33) Tryz.ntmps118 200 ?_)
  simp only [go_sem, Nat.reduceAdd, Nat.reduceMul, Nat.reduceSub, Nat.reduceBEq, Nat.reduceLT, Nat.reduceLeDiff, reduceIte, reduceCtorEq, Int.reduceToNat, Int.reduceLE, Int.reduceLT, Int.reduceNe, Int.reduceMul, Int.reduceAdd, Int.reduceSub, Int.reduceDiv, Int.reduceMod, Int.reduceEq, Int.reduceGE, Int.reduceGT, Int.reduceNeg, Int.reduceBEq, Int.reduceBNe, Nat.reduceEqDiff]
  exact aret [4] rfl ⟨by simp [resV, Av.get], rfl⟩

theorem fault_pch {S : Std} (hS : LibOk S) : PcH Tryz.prog S 117 [paraA] (· = .int .i64 0) := by
  refine pch_intro (cth_intro Tryz.func117 rfl Tryz.ntmps117 hB117 (by simp) fun h ρ w hg => go (N := 66) Tryz.ntmps117 200 ?_)
  simp only [go_sem, Nat.reduceAdd, Nat.reduceMul, Nat.reduceSub, Nat.reduceBEq, Nat.reduceLT, Nat.reduceLeDiff, reduceIte, reduceCtorEq, Int.reduceToNat, Int.reduceLE, Int.reduceLT, Int.reduceNe, Int.reduceMul, Int.reduceAdd, Int.reduceSub, Int.reduceDiv, Int.reduceMod, Int.reduceEq, Int.reduceGE, Int.reduceGT, Int.reduceNeg, Int.reduceBEq, Int.reduceBNe, Nat.reduceEqDiff, paraA]
  refine pcallH1 hg (plain_pch hS [82, 97, 105, 110, 46] (by decide)) rfl (N := 66) Tryz.ntmps117 rfl (go (N := 66) Tryz.ntmps117 300 ?_)
  have hp : plainL [82, 97, 105, 110, 46] = true := by decide
  simp only [go_sem, Nat.reduceAdd, Nat.reduceMul, Nat.reduceSub, Nat.reduceBEq, Nat.reduceLT, Nat.reduceLeDiff, reduceIte, reduceCtorEq, Int.reduceToNat, Int.reduceLE, Int.reduceLT, Int.reduceNe, Int.reduceMul, Int.reduceAdd, Int.reduceSub, Int.reduceDiv, Int.reduceMod, Int.reduceEq, Int.reduceGE, Int.reduceGT, Int.reduceNeg, Int.reduceBEq, Int.reduceBNe, Nat.reduceEqDiff, hp]
  exact aret [2] rfl ⟨by simp [resV, Av.get], rfl⟩

theorem scene_pch {S : Std} (hS : LibOk S) : PcH Tryz.prog S 72 [sceneA] (· = .int .i64 0) := by
  refine pch_intro (cth_intro Tryz.func72 rfl Tryz.ntmps72 hB72 (by simp) fun h ρ w hg => go (N := 37) Tryz.ntmps72 200 ?_)
  simp only [go_sem, Nat.reduceAdd, Nat.reduceMul, Nat.reduceSub, Nat.reduceBEq, Nat.reduceLT, Nat.reduceLeDiff, reduceIte, reduceCtorEq, Int.reduceToNat, Int.reduceLE, Int.reduceLT, Int.reduceNe, Int.reduceMul, Int.reduceAdd, Int.reduceSub, Int.reduceDiv, Int.reduceMod, Int.reduceEq, Int.reduceGE, Int.reduceGT, Int.reduceNeg, Int.reduceBEq, Int.reduceBNe, Nat.reduceEqDiff, sceneA]
  refine pcallH1 hg (isSet_pch hS [72, 65, 76, 76] (by decide)) rfl (N := 37) Tryz.ntmps72 rfl (go (N := 37) Tryz.ntmps72 300 ?_)
  have hp : isSetL [72, 65, 76, 76] = true := by decide
  simp only [go_sem, Nat.reduceAdd, Nat.reduceMul, Nat.reduceSub, Nat.reduceBEq, Nat.reduceLT, Nat.reduceLeDiff, reduceIte, reduceCtorEq, Int.reduceToNat, Int.reduceLE, Int.reduceLT, Int.reduceNe, Int.reduceMul, Int.reduceAdd, Int.reduceSub, Int.reduceDiv, Int.reduceMod, Int.reduceEq, Int.reduceGE, Int.reduceGT, Int.reduceNeg, Int.reduceBEq, Int.reduceBNe, Nat.reduceEqDiff, hp]
  refine aenter (around (go (N := 37) Tryz.ntmps72 300 ?_))
  simp only [go_sem, Nat.reduceAdd, Nat.reduceMul, Nat.reduceSub, Nat.reduceBEq, Nat.reduceLT, Nat.reduceLeDiff, reduceIte, reduceCtorEq, Int.reduceToNat, Int.reduceLE, Int.reduceLT, Int.reduceNe, Int.reduceMul, Int.reduceAdd, Int.reduceSub, Int.reduceDiv, Int.reduceMod, Int.reduceEq, Int.reduceGE, Int.reduceGT, Int.reduceNeg, Int.reduceBEq, Int.reduceBNe, Nat.reduceEqDiff]
  refine pcallH1 hg (fault_pch hS) rfl (N := 37) Tryz.ntmps72 rfl (go (N := 37) Tryz.ntmps72 300 ?_)
  simp only [go_sem, Nat.reduceAdd, Nat.reduceMul, Nat.reduceSub, Nat.reduceBEq, Nat.reduceLT, Nat.reduceLeDiff, reduceIte, reduceCtorEq, Int.reduceToNat, Int.reduceLE, Int.reduceLT, Int.reduceNe, Int.reduceMul, Int.reduceAdd, Int.reduceSub, Int.reduceDiv, Int.reduceMod, Int.reduceEq, Int.reduceGE, Int.reduceGT, Int.reduceNeg, Int.reduceBEq, Int.reduceBNe, Nat.reduceEqDiff]
  refine pcall1 followsT_pc rfl (N := 37) Tryz.ntmps72 rfl (go (N := 37) Tryz.ntmps72 300 ?_)
  simp only [go_sem, Nat.reduceAdd, Nat.reduceMul, Nat.reduceSub, Nat.reduceBEq, Nat.reduceLT, Nat.reduceLeDiff, reduceIte, reduceCtorEq, Int.reduceToNat, Int.reduceLE, Int.reduceLT, Int.reduceNe, Int.reduceMul, Int.reduceAdd, Int.reduceSub, Int.reduceDiv, Int.reduceMod, Int.reduceEq, Int.reduceGE, Int.reduceGT, Int.reduceNeg, Int.reduceBEq, Int.reduceBNe, Nat.reduceEqDiff]
  refine aagain (around (go (N := 37) Tryz.ntmps72 300 ?_))
  simp only [go_sem, Nat.reduceAdd, Nat.reduceMul, Nat.reduceSub, Nat.reduceBEq, Nat.reduceLT, Nat.reduceLeDiff, reduceIte, reduceCtorEq, Int.reduceToNat, Int.reduceLE, Int.reduceLT, Int.reduceNe, Int.reduceMul, Int.reduceAdd, Int.reduceSub, Int.reduceDiv, Int.reduceMod, Int.reduceEq, Int.reduceGE, Int.reduceGT, Int.reduceNeg, Int.reduceBEq, Int.reduceBNe, Nat.reduceEqDiff]
  exact aret [2] rfl ⟨by simp [resV, Av.get], rfl⟩
end Go.Proofs.YtpjbbpilgfihbaaGreatDoor
/- Blocks of lines: headings, actions, turns, what is added to a group. Own work of this seat. -/
set_option maxRecDepth 100000
set_option linter.unusedSimpArgs false
set_option linter.unusedVariables false
namespace Go.Proofs.YtpjbbpilgfihbaaGreatDoor
open Go Go.Av Go.RowKit
attribute [local go_sem ↓] br_true br_false dbr_true dbr_false dbri_true dbri_false dbrg_true dbrg_false
attribute [local go_sem] run cont br dbr dx dxc dgrd dyld dres dcall calm fieldPlace? allHas step1 opN grdN resN condN exitN stopN exitIt dOk xop xbin xint xarith xstr xbool xpick xnot xneg xextract xpart xpartOk xindex xfieldF fieldD xnew xbox xalloc xfieldAddr xptrAddIf xindexAddr xloadC xload putCells reElem xstoreB xstore xconv xtext xlen xlen2 xcall xfill xbuild cut rep xbuildSlice xbuildSliceD isRow elemD isU8 ev evs evp Go.Av.put Go.Av.get ofConst yldD yldV notBool_undef args0 cellsOf cond_true cond_false decide_true decide_false decide_eq_true_eq decide_eq_false_iff_not List.getElem?_cons_zero List.getElem?_cons_succ List.getElem?_nil List.getD_cons_zero List.getD_cons_succ List.getD_nil List.set_cons_zero List.set_cons_succ List.length_cons List.length_nil List.cons_append List.nil_append List.append_nil List.all_cons List.all_nil List.map_cons List.map_nil List.take_succ_cons List.take_zero List.drop_succ_cons List.drop_zero Bool.and_true Bool.true_and Bool.and_self Bool.and_false Bool.false_and one Go.Av.frozen beq_self_eq_true true_and and_true forall_const false_implies implies_true and_self Option.map_some Option.map_none Nat.zero_add Nat.add_zero Nat.zero_mul Nat.mul_one Nat.one_mul Int.toNat_zero ne_eq not_false_eq_true not_true_eq_false Bool.true_eq_false Bool.false_eq_true List.toList_toArray inr Go.Av.byteOf isByte decide_eq_decide Bool.not_true Bool.not_false Bool.not_eq_true' Bool.or_true Bool.true_or Bool.or_false Bool.false_or ge_iff_le gt_iff_lt and_assoc Bool.decide_eq_true beq_iff_eq beq_eq_false_iff_ne bne_iff_ne bne_self_eq_false if_true if_false Bool.and_eq_true Bool.or_eq_true Bool.and_eq_false_imp Bool.or_eq_false_iff Bool.not_eq_false' has Option.isSome_some Option.isSome_none Int.toNat_natCast Int.cast_ofNat_Int List.length_append xapp2 xapp xappS xappD xappB notInt srcOf srcB byteAV splice' xcut xcutS xcutF xcutB xcutN xcut0 cutL loOf hiOf evo xmake zelem xmax xcopy2 xcopyS xcopyB xnil xcut3 ixOf xclear2 xclearB List.getElem?_toArray xbin2 xnileq xempty xmkmap xmput xmputB xmputF isKey keyEq mfind xbin3 xeqs xeqop eqFs bothB leafEq xlook xlookB xlookF xbytes beq_c_n beq_n_c bne_c_n bne_n_c one_nil dxi dxic dbri rix dck reader blind opOk refOk Go.Op.operands Go.Call.operands List.contains_cons List.contains_nil dxg dxgc dbrg pck putD List.lookup_cons List.lookup_nil ts2 tb2 zl2 za2 Tryz.underlying2 ts3 tb3 zl3 za3 Tryz.underlying3 ts4 tb4 zl4 za4 Tryz.underlying4 ts5 tb5 zl5 za5 Tryz.underlying5 ts6 tb6 zl6 za6 Tryz.underlying6 ts7 tb7 za7 Tryz.underlying7 ts8 tb8 za8 Tryz.underlying8 ts9 tb9 zl9 za9 Tryz.underlying9 ts10 tb10 zl10 za10 Tryz.underlying10 ts11 tb11 zl11 za11 Tryz.underlying11 ts12 tb12 zl12 za12 Tryz.underlying12 ts13 tb13 za13 Tryz.underlying13 ts14 tb14 za14 Tryz.underlying14 ts18 tb18 za18 Tryz.underlying18 ts19 tb19 za19 Tryz.underlying19 ts21 tb21 zl21 za21 Tryz.underlying21 ts22 tb22 zl22 za22 Tryz.underlying22 ts24 tb24 za24 Tryz.underlying24 ts25 tb25 za25 Tryz.underlying25 ts27 tb27 zl27 za27 Tryz.underlying27 ts35 tb35 zl35 za35 Tryz.underlying35 ts36 tb36 za36 Tryz.underlying36 ts37 tb37 za37 Tryz.underlying37 ts39 tb39 zl39 za39 Tryz.underlying39 ts41 tb41 za41 Tryz.underlying41 ts42 tb42 za42 Tryz.underlying42 ts63 tb63 zl63 za63 Tryz.underlying63 ts64 tb64 zl64 za64 Tryz.underlying64 ts65 tb65 za65 Tryz.underlying65 ts66 tb66 za66 Tryz.underlying66 ts67 tb67 zl67 za67 Tryz.underlying67 ts69 tb69 za69 Tryz.underlying69 ts70 tb70 za70 Tryz.underlying70 ts73 tb73 za73 Tryz.underlying73 ts74 tb74 za74 Tryz.underlying74 ts75 tb75 zl75 za75 Tryz.underlying75 ts82 tb82 zl82 za82 Tryz.underlying82 ts96 tb96 za96 Tryz.underlying96 ts97 tb97 za97 Tryz.underlying97 ts103 tb103 za103 Tryz.underlying103 ts104 tb104 za104 Tryz.underlying104 ts109 tb109 zl109 za109 Tryz.underlying109 ts116 tb116 zl116 za116 Tryz.underlying116 ts117 tb117 za117 Tryz.underlying117 ts118 tb118 za118 Tryz.underlying118 ts120 tb120 zl120 za120 Tryz.underlying120 ts124 tb124 zl124 za124 Tryz.underlying124 ts126 tb126 za126 Tryz.underlying126 ts128 tb128 zl128 za128 Tryz.underlying128 ts130 tb130 za130 Tryz.underlying130 ts131 tb131 za131 Tryz.underlying131 ts153 tb153 zl153 za153 Tryz.underlying153 ts167 tb167 zl167 za167 Tryz.underlying167 ts171 tb171 zl171 za171 Tryz.underlying171 ts177 tb177 zl177 za177 Tryz.underlying177 ts183 tb183 zl183 za183 Tryz.underlying183 ts189 tb189 zl189 za189 Tryz.underlying189 ts191 tb191 zl191 za191 Tryz.underlying191 ts195 tb195 za195 Tryz.underlying195 ts196 tb196 za196 Tryz.underlying196 ts198 tb198 zl198 za198 Tryz.underlying198 ts203 tb203 Tryz.underlying203 ts209 tb209 za209 Tryz.underlying209 ts210 tb210 za210 Tryz.underlying210 ts211 tb211 Tryz.underlying211 ts216 tb216 za216 Tryz.underlying216 ts217 tb217 za217 Tryz.underlying217 ts220 tb220 Tryz.underlying220 ts225 tb225 Tryz.underlying225 ts226 tb226 Tryz.underlying226 ts227 tb227 za227 Tryz.underlying227 ts228 tb228 za228 Tryz.underlying228 ts232 tb232 zl232 za232 Tryz.underlying232 ts233 tb233 zl233 za233 Tryz.underlying233 ts235 tb235 zl235 za235 Tryz.underlying235 ts236 tb236 zl236 za236 Tryz.underlying236 ts237 tb237 za237 Tryz.underlying237 ts238 tb238 za238 Tryz.underlying238

theorem blanks_len (n : Nat) : (Lib.repeatL [32] n).length = n := by
  rw [Lib.repeatL_length]; simp
theorem chop_le (W : Nat) : ∀ (n : Nat) (w : List UInt8), w.length ≤ n → ∀ l ∈ (chop W w).1, l.length ≤ w.length
  | 0, w, h, l, hl => by rw [chop_end (by omega)] at hl; simp at hl
  | n + 1, w, h, l, hl => by
    by_cases hc : W < w.length ∧ 0 < W
    · rw [chop_more hc.1 hc.2] at hl
      rcases List.mem_cons.1 hl with rfl | hl
      · simp; omega
      · have := chop_le W n (w.drop W) (by simp; omega) l hl
        simp at this; omega
    · rw [chop, dif_neg hc] at hl; simp at hl
theorem wrapTo_le (W : Nat) (t : List UInt8) : ∀ j, j ≤ (splitW t).length → ∀ l ∈ (wrapTo W t j).1, l.length ≤ sumTo t j
  | 0, _, l, hl => by simp [wrapTo] at hl
  | j + 1, hj, l, hl => by
    have hjl : j < (splitW t).length := by omega
    have h := List.getElem?_eq_getElem hjl
    have ih := wrapTo_le W t j (by omega)
    have hb := wrapTo_len W t j (by omega)
    rw [wrapTo_step h] at hl
    rw [sumTo_step h]
    unfold wrapS at hl
    split at hl
    · have := ih l hl; omega
    · split at hl
      · have := ih l hl; omega
      · simp only at hl
        rcases List.mem_append.1 hl with hl | hl
        · split at hl
          · rcases List.mem_append.1 hl with hl | hl
            · have := ih l hl; omega
            · rw [List.mem_singleton.1 hl]; omega
          · have := ih l hl; omega
        · have := chop_le W _ _ (Nat.le_refl _) l hl; omega
theorem wrapL_le (W : Nat) (t : List UInt8) : (wrapL W t).length ≤ t.length + 2 ∧ ∀ l ∈ wrapL W t, l.length ≤ t.length + 1 := by
  have htot : wrapTo W t (splitW t).length = wrapF W t := by simp [wrapTo, wrapF]
  have hb := wrapTo_len W t _ (Nat.le_refl _)
  have hb2 := sumTo_le t _ (Nat.le_refl _)
  have hb3 := wrapTo_le W t _ (Nat.le_refl _)
  rw [htot] at hb hb3
  unfold wrapL
  split
  · refine ⟨by simp; omega, fun l hl => ?_⟩
    rcases List.mem_append.1 hl with hl | hl
    · have := hb3 l hl; omega
    · rw [List.mem_singleton.1 hl]; omega
  · exact ⟨by omega, fun l hl => by have := hb3 l hl; omega⟩

structure Bl where
  kind : Int
  lines : List (List UInt8)
  kinds : List Int
  name : List UInt8
def blA (b : Bl) : AV := .agg [.int .i64 b.kind, .fz 1 (b.lines.map .str), .fz 1 (b.kinds.map (.int .i64)), .str b.name]

theorem gap_pc (b : Bl) : Pc Tryz.prog 86 [blA b] (· = .int .i64 (if b.kind == 0 then 2 else 1)) := by
  simp only [blA]
  cases hb : b.kind == 0 with
  | true =>
    refine pc_intro (ct_intro Tryz.func86 rfl Tryz.ntmps86 hB86 (by simp) fun h ρ w => go (N := 6) Tryz.ntmps86 300 ?_)
    simp only [go_sem, Nat.reduceAdd, Nat.reduceMul, Nat.reduceSub, Nat.reduceBEq, Nat.reduceLT, Nat.reduceLeDiff, reduceIte, reduceCtorEq, Int.reduceToNat, Int.reduceLE, Int.reduceLT, Int.reduceNe, Int.reduceMul, Int.reduceAdd, Int.reduceSub, Int.reduceDiv, Int.reduceMod, Int.reduceEq, Int.reduceGE, Int.reduceGT, Int.reduceNeg, Int.reduceBEq, Int.reduceBNe, Nat.reduceEqDiff, hb]
    exact aret [2] rfl ⟨by simp [resV, Av.get], rfl⟩
  | false =>
    refine pc_intro (ct_intro Tryz.func86 rfl Tryz.ntmps86 hB86 (by simp) fun h ρ w => go (N := 6) Tryz.ntmps86 300 ?_)
    simp only [go_sem, Nat.reduceAdd, Nat.reduceMul, Nat.reduceSub, Nat.reduceBEq, Nat.reduceLT, Nat.reduceLeDiff, reduceIte, reduceCtorEq, Int.reduceToNat, Int.reduceLE, Int.reduceLT, Int.reduceNe, Int.reduceMul, Int.reduceAdd, Int.reduceSub, Int.reduceDiv, Int.reduceMod, Int.reduceEq, Int.reduceGE, Int.reduceGT, Int.reduceNeg, Int.reduceBEq, Int.reduceBNe, Nat.reduceEqDiff, hb]
    exact aret [2] rfl ⟨by simp [resV, Av.get], rfl⟩

theorem newHeading_pch {St : Std} (hS : LibOk St) (t : List UInt8) (hl : t.length < 10000000) : PcH Tryz.prog St 124 [.str t] (· = blA ⟨0, wrapL 60 t, [], []⟩) := by
  have hw := wrap_pch hS t 60 (by omega) (by omega) (by omega)
  simp only [blA]
  refine pch_intro (cth_intro Tryz.func124 rfl Tryz.ntmps124 hB124 (by simp) fun h ρ w hg => goF (N := 6) Tryz.ntmps124 300 ?_)
  simp only [go_sem, Nat.reduceAdd, Nat.reduceMul, Nat.reduceSub, Nat.reduceBEq, Nat.reduceLT, Nat.reduceLeDiff, reduceIte, reduceCtorEq, Int.reduceToNat, Int.reduceLE, Int.reduceLT, Int.reduceNe, Int.reduceMul, Int.reduceAdd, Int.reduceSub, Int.reduceDiv, Int.reduceMod, Int.reduceEq, Int.reduceGE, Int.reduceGT, Int.reduceNeg, Int.reduceBEq, Int.reduceBNe, Nat.reduceEqDiff]
  refine pcallH1 hg (hw) rfl (N := 6) Tryz.ntmps124 rfl (goF (N := 6) Tryz.ntmps124 300 ?_)
  simp only [go_sem, Nat.reduceAdd, Nat.reduceMul, Nat.reduceSub, Nat.reduceBEq, Nat.reduceLT, Nat.reduceLeDiff, reduceIte, reduceCtorEq, Int.reduceToNat, Int.reduceLE, Int.reduceLT, Int.reduceNe, Int.reduceMul, Int.reduceAdd, Int.reduceSub, Int.reduceDiv, Int.reduceMod, Int.reduceEq, Int.reduceGE, Int.reduceGT, Int.reduceNeg, Int.reduceBEq, Int.reduceBNe, Nat.reduceEqDiff]
  exact ARet.shift (Shift.cells 0 1 [.agg [.int .i64 0, .fz 1 ((wrapL 60 t).map .str), .fz 1 [], .str []]] rfl rfl (by simp [cellsOf]) ⟨.refl, .refl, .fz, .refl, trivial⟩) (aretc [.cell 2 131] rfl [_] ⟨by simp only [go_sem, Nat.reduceAdd, Nat.reduceMul, Nat.reduceSub, Nat.reduceBEq, Nat.reduceLT, Nat.reduceLeDiff, reduceIte, reduceCtorEq, Int.reduceToNat, Int.reduceLE, Int.reduceLT, Int.reduceNe, Int.reduceMul, Int.reduceAdd, Int.reduceSub, Int.reduceDiv, Int.reduceMod, Int.reduceEq, Int.reduceGE, Int.reduceGT, Int.reduceNeg, Int.reduceBEq, Int.reduceBNe, Nat.reduceEqDiff, sideIs], trivial⟩ ⟨rfl, rfl⟩)
theorem newAction_pch {St : Std} (hS : LibOk St) (t : List UInt8) (hl : t.length < 10000000) : PcH Tryz.prog St 125 [.str t] (· = blA ⟨1, wrapL 60 t, [], []⟩) := by
  have hw := wrap_pch hS t 60 (by omega) (by omega) (by omega)
  simp only [blA]
  refine pch_intro (cth_intro Tryz.func125 rfl Tryz.ntmps125 hB125 (by simp) fun h ρ w hg => goF (N := 6) Tryz.ntmps125 300 ?_)
  simp only [go_sem, Nat.reduceAdd, Nat.reduceMul, Nat.reduceSub, Nat.reduceBEq, Nat.reduceLT, Nat.reduceLeDiff, reduceIte, reduceCtorEq, Int.reduceToNat, Int.reduceLE, Int.reduceLT, Int.reduceNe, Int.reduceMul, Int.reduceAdd, Int.reduceSub, Int.reduceDiv, Int.reduceMod, Int.reduceEq, Int.reduceGE, Int.reduceGT, Int.reduceNeg, Int.reduceBEq, Int.reduceBNe, Nat.reduceEqDiff]
  refine pcallH1 hg (hw) rfl (N := 6) Tryz.ntmps125 rfl (goF (N := 6) Tryz.ntmps125 300 ?_)
  simp only [go_sem, Nat.reduceAdd, Nat.reduceMul, Nat.reduceSub, Nat.reduceBEq, Nat.reduceLT, Nat.reduceLeDiff, reduceIte, reduceCtorEq, Int.reduceToNat, Int.reduceLE, Int.reduceLT, Int.reduceNe, Int.reduceMul, Int.reduceAdd, Int.reduceSub, Int.reduceDiv, Int.reduceMod, Int.reduceEq, Int.reduceGE, Int.reduceGT, Int.reduceNeg, Int.reduceBEq, Int.reduceBNe, Nat.reduceEqDiff]
  exact ARet.shift (Shift.cells 0 1 [.agg [.int .i64 1, .fz 1 ((wrapL 60 t).map .str), .fz 1 [], .str []]] rfl rfl (by simp [cellsOf]) ⟨.refl, .refl, .fz, .refl, trivial⟩) (aretc [.cell 2 131] rfl [_] ⟨by simp only [go_sem, Nat.reduceAdd, Nat.reduceMul, Nat.reduceSub, Nat.reduceBEq, Nat.reduceLT, Nat.reduceLeDiff, reduceIte, reduceCtorEq, Int.reduceToNat, Int.reduceLE, Int.reduceLT, Int.reduceNe, Int.reduceMul, Int.reduceAdd, Int.reduceSub, Int.reduceDiv, Int.reduceMod, Int.reduceEq, Int.reduceGE, Int.reduceGT, Int.reduceNeg, Int.reduceBEq, Int.reduceBNe, Nat.reduceEqDiff, sideIs], trivial⟩ ⟨rfl, rfl⟩)

def turnLine (t : List UInt8) : List UInt8 := Lib.repeatL [32] (60 - (t.length + 1)) ++ (t ++ [58])
theorem newTurn_pc (t : List UInt8) (hl : t.length < 10000000) : Pc Tryz.prog 126 [.str t] (· = blA ⟨2, [turnLine t], [], []⟩) := by
  have hr := repeat_pc [32] (60 - (t.length + 1)) (by simp; omega) (by omega)
  simp only [blA]
  have hmx : (if 60 - ((t.length + 1 : Nat) : Int) < 0 then 0 else 60 - ((t.length + 1 : Nat) : Int)) = ((60 - (t.length + 1) : Nat) : Int) := by split <;> omega
  refine pc_intro (ct_intro Tryz.func126 rfl Tryz.ntmps126 hB126 (by simp) fun h ρ w => goF (N := 15) Tryz.ntmps126 300 ?_)
  simp only [go_sem, Nat.reduceAdd, Nat.reduceMul, Nat.reduceSub, Nat.reduceBEq, Nat.reduceLT, Nat.reduceLeDiff, reduceIte, reduceCtorEq, Int.reduceToNat, Int.reduceLE, Int.reduceLT, Int.reduceNe, Int.reduceMul, Int.reduceAdd, Int.reduceSub, Int.reduceDiv, Int.reduceMod, Int.reduceEq, Int.reduceGE, Int.reduceGT, Int.reduceNeg, Int.reduceBEq, Int.reduceBNe, Nat.reduceEqDiff]
  rw [hmx]
  refine ⟨by omega, by omega, by omega, ?_⟩
  refine pcall1 (hr) rfl (N := 15) Tryz.ntmps126 rfl (goF (N := 15) Tryz.ntmps126 300 ?_)
  simp only [go_sem, Nat.reduceAdd, Nat.reduceMul, Nat.reduceSub, Nat.reduceBEq, Nat.reduceLT, Nat.reduceLeDiff, reduceIte, reduceCtorEq, Int.reduceToNat, Int.reduceLE, Int.reduceLT, Int.reduceNe, Int.reduceMul, Int.reduceAdd, Int.reduceSub, Int.reduceDiv, Int.reduceMod, Int.reduceEq, Int.reduceGE, Int.reduceGT, Int.reduceNeg, Int.reduceBEq, Int.reduceBNe, Nat.reduceEqDiff]
  refine ⟨by rw [blanks_len]; omega, ?_⟩
  exact ARet.shift (Shift.cells 0 1 [.agg [.int .i64 2, .fz 1 [.str (turnLine t)], .fz 1 [], .str []]] rfl rfl (by simp [cellsOf]) ⟨.refl, .refl, .fz, .refl, trivial⟩) (aretc [.cell 2 131] rfl [_] ⟨by simp only [go_sem, Nat.reduceAdd, Nat.reduceMul, Nat.reduceSub, Nat.reduceBEq, Nat.reduceLT, Nat.reduceLeDiff, reduceIte, reduceCtorEq, Int.reduceToNat, Int.reduceLE, Int.reduceLT, Int.reduceNe, Int.reduceMul, Int.reduceAdd, Int.reduceSub, Int.reduceDiv, Int.reduceMod, Int.reduceEq, Int.reduceGE, Int.reduceGT, Int.reduceNeg, Int.reduceBEq, Int.reduceBNe, Nat.reduceEqDiff, sideIs], trivial⟩ ⟨rfl, rfl⟩)

def indent (n : Nat) (l : List UInt8) : List UInt8 := Lib.repeatL [32] n ++ l
/-- a group that lies in the block 'ib' (place i of n), its lines in 'il', their kinds in 'ik' -/
structure Grp (S : AV → List AV → List AV → List Blk) (M : AV → List AV) (ib il ik n i : Nat) : Prop where
  hi : i < n
  hb : ∀ g L K, (S g L K).getD ib .dead = .arr 4 (M g)
  hM : ∀ g, (M g).length = n
  hMi : ∀ g, List.getD (M g) i .any = g
  hMs : ∀ g g', (M g).set i g' = M g'
  hbs : ∀ g g' L K, (S g L K).set ib (.arr 4 (M g')) = S g' L K
  hL : ∀ g L K, (S g L K).getD il .dead = .arr 1 L
  hLs : ∀ g L L' K, (S g L K).set il (.arr 1 L') = S g L' K
  hK : ∀ g L K, (S g L K).getD ik .dead = .arr 1 K
  hKs : ∀ g L K K', (S g L K).set ik (.arr 1 K') = S g L K'
def grpA (il ik : Nat) (kd : Int) (a b : Nat) (nm : List UInt8) : AV := .agg [.int .i64 kd, .sl il 0 a a, .sl ik 0 b b, .str nm]
/-- the table with a group in it -/
def grpS (S : AV → List AV → List AV → List Blk) (il ik : Nat) (b : Bl) : List Blk := S (grpA il ik b.kind b.lines.length b.kinds.length b.name) (b.lines.map .str) (b.kinds.map (.int .i64))
def addB (b : Bl) (kd : Int) (at' : Nat) (ls : List (List UInt8)) : Bl := { b with lines := b.lines ++ ls.map (indent at'), kinds := b.kinds ++ List.replicate ls.length kd }

set_option maxHeartbeats 2000000 in
theorem addLines_ct {S : AV → List AV → List AV → List Blk} {M : AV → List AV} {ib il ik n i : Nat} (G : Grp S M ib il ik n i) (b : Bl) (kd' : Int) (at' : Nat) (hat : at' ≤ 1000) (ls : List (List UInt8)) (hsm : b.lines.length + ls.length < 1000000000) (hsk : b.kinds.length + ls.length < 1000000000) (hll : ∀ l ∈ ls, l.length < 1000000) :
    Ct Tryz.prog 156 [.ptr ib n i 0, .int .i64 kd', .int .i64 (at' : Int), .fz 1 (ls.map .str)] (grpS S il ik b) (fun r s => r = .tup [] ∧ s = grpS S il ik (addB b kd' at' ls)) := by
  obtain ⟨hi, hb, hM, hMi, hMs, hbs, hL, hLs, hK, hKs⟩ := G
  obtain ⟨kd, L0, K0, nm⟩ := b
  simp only [grpS, grpA, addB, List.length_append, List.length_map, List.length_replicate] at hsm hsk ⊢
  have hr := repeat_pc [32] at' (by simp; omega) (by omega)
  refine ct_intro Tryz.func156 rfl Tryz.ntmps156 hB156 (by simp) fun h ρ w => goF (N := 40) Tryz.ntmps156 300 ?_
  simp only [go_sem, Nat.reduceAdd, Nat.reduceMul, Nat.reduceSub, Nat.reduceBEq, Nat.reduceLT, Nat.reduceLeDiff, reduceIte, reduceCtorEq, Int.reduceToNat, Int.reduceLE, Int.reduceLT, Int.reduceNe, Int.reduceMul, Int.reduceAdd, Int.reduceSub, Int.reduceDiv, Int.reduceMod, Int.reduceEq, Int.reduceGE, Int.reduceGT, Int.reduceNeg, Int.reduceBEq, Int.reduceBNe, Nat.reduceEqDiff, List.length_map]
  refine aloop (ι := Nat) (fun j => ls.length - j) (fun j => [(12, .int .i64 j), (11, .int .i64 ls.length), (10, .fz 1 (ls.map .str)), (0, .ptr ib n i 0), (1, .int .i64 kd'), (2, .int .i64 (at' : Int))])
    (fun j => S (.agg [.int .i64 kd, .sl il 0 (L0.length + j) (L0.length + j), .sl ik 0 (K0.length + j) (K0.length + j), .str nm]) ((L0 ++ (ls.take j).map (indent at')).map .str) ((K0 ++ List.replicate j kd').map (.int .i64))) (fun j => j ≤ ls.length) 0 (by simp) ?_ ?_
  · refine Shift.weakS ?_ ?_
    · simp only [wk, go_sem, Nat.reduceAdd, Nat.reduceMul, Nat.reduceSub, Nat.reduceBEq, Nat.reduceLT, Nat.reduceLeDiff, reduceIte, reduceCtorEq, Int.reduceToNat, Int.reduceLE, Int.reduceLT, Int.reduceNe, Int.reduceMul, Int.reduceAdd, Int.reduceSub, Int.reduceDiv, Int.reduceMod, Int.reduceEq, Int.reduceGE, Int.reduceGT, Int.reduceNeg, Int.reduceBEq, Int.reduceBNe, Nat.reduceEqDiff]
    · simp
  · intro j g1 J hJ
    by_cases gj : j < ls.length
    · have dj : decide ((j : Int) < (ls.length : Int)) = true := by simp; omega
      have hg' : List.getD (List.map AV.str ls) j .any = .str ls[j] := by simp [List.getD, gj]
      have hlt : (List.take j ls).length = j := by simp; omega
      have hlj := hll ls[j] (List.getElem_mem gj)
      have hbl := blanks_len at'
      refine goF (N := 40) Tryz.ntmps156 300 ?_
      simp only [go_sem, Nat.reduceAdd, Nat.reduceMul, Nat.reduceSub, Nat.reduceBEq, Nat.reduceLT, Nat.reduceLeDiff, reduceIte, reduceCtorEq, Int.reduceToNat, Int.reduceLE, Int.reduceLT, Int.reduceNe, Int.reduceMul, Int.reduceAdd, Int.reduceSub, Int.reduceDiv, Int.reduceMod, Int.reduceEq, Int.reduceGE, Int.reduceGT, Int.reduceNeg, Int.reduceBEq, Int.reduceBNe, Nat.reduceEqDiff, dj, hg', List.length_map]
      repeat refine And.intro (by first | omega | exact .inl trivial | rfl | (simp; done) | (simp; omega)) ?_
      refine adraw [.str (Lib.repeatL [32] at')] mixed (by decide) (N := 40) Tryz.ntmps156 (by decide) 100 ?_
      simp only [go_sem, Nat.reduceAdd, Nat.reduceMul, Nat.reduceSub, Nat.reduceBEq, Nat.reduceLT, Nat.reduceLeDiff, reduceIte, reduceCtorEq, Int.reduceToNat, Int.reduceLE, Int.reduceLT, Int.reduceNe, Int.reduceMul, Int.reduceAdd, Int.reduceSub, Int.reduceDiv, Int.reduceMod, Int.reduceEq, Int.reduceGE, Int.reduceGT, Int.reduceNeg, Int.reduceBEq, Int.reduceBNe, Nat.reduceEqDiff, hb, hM, hMi, hMs, hbs, hL, hLs, hK, hKs, hlt, List.length_map, List.length_replicate]
      repeat refine And.intro (by first | omega | exact hr.at | exact .inl trivial | rfl | (simp; done) | (simp; omega)) ?_
      refine goF (N := 40) Tryz.ntmps156 300 ?_
      simp only [go_sem, Nat.reduceAdd, Nat.reduceMul, Nat.reduceSub, Nat.reduceBEq, Nat.reduceLT, Nat.reduceLeDiff, reduceIte, reduceCtorEq, Int.reduceToNat, Int.reduceLE, Int.reduceLT, Int.reduceNe, Int.reduceMul, Int.reduceAdd, Int.reduceSub, Int.reduceDiv, Int.reduceMod, Int.reduceEq, Int.reduceGE, Int.reduceGT, Int.reduceNeg, Int.reduceBEq, Int.reduceBNe, Nat.reduceEqDiff, hb, hM, hMi, hMs, hbs, hL, hLs, hK, hKs, hlt, List.length_map, List.length_replicate]
      repeat refine And.intro (by first | omega | exact .inl trivial | rfl | (simp; done) | (simp; omega)) ?_
      have e1 : List.map AV.str (L0 ++ List.map (indent at') (List.take j ls)) ++ [AV.str (Lib.repeatL [32] at' ++ ls[j])] = List.map AV.str (L0 ++ List.map (indent at') (List.take (j + 1) ls)) := by
        rw [List.take_succ_eq_append_getElem gj]; simp only [List.map_append, List.append_assoc, List.map_cons, List.map_nil]; rfl
      have e2 : List.map (AV.int .i64) (K0 ++ List.replicate j kd') ++ [AV.int .i64 kd'] = List.map (AV.int .i64) (K0 ++ List.replicate (j + 1) kd') := by
        rw [List.replicate_succ']; simp
      rw [e1, e2, show (j : Int) + 1 = ((j + 1 : Nat) : Int) by omega]
      refine ainv (hJ (j + 1) (by omega) (by omega)) (Shift.weak ?_)
      simp only [wk, go_sem, Nat.reduceAdd, Nat.reduceMul, Nat.reduceSub, Nat.reduceBEq, Nat.reduceLT, Nat.reduceLeDiff, reduceIte, reduceCtorEq, Int.reduceToNat, Int.reduceLE, Int.reduceLT, Int.reduceNe, Int.reduceMul, Int.reduceAdd, Int.reduceSub, Int.reduceDiv, Int.reduceMod, Int.reduceEq, Int.reduceGE, Int.reduceGT, Int.reduceNeg, Int.reduceBEq, Int.reduceBNe, Nat.reduceEqDiff]
    · have dj : decide ((j : Int) < (ls.length : Int)) = false := by simp; omega
      have hj : j = ls.length := by omega
      subst hj
      refine goF (N := 40) Tryz.ntmps156 300 ?_
      simp only [go_sem, Nat.reduceAdd, Nat.reduceMul, Nat.reduceSub, Nat.reduceBEq, Nat.reduceLT, Nat.reduceLeDiff, reduceIte, reduceCtorEq, Int.reduceToNat, Int.reduceLE, Int.reduceLT, Int.reduceNe, Int.reduceMul, Int.reduceAdd, Int.reduceSub, Int.reduceDiv, Int.reduceMod, Int.reduceEq, Int.reduceGE, Int.reduceGT, Int.reduceNeg, Int.reduceBEq, Int.reduceBNe, Nat.reduceEqDiff, dj]
      exact aret [] rfl ⟨rfl, by simp⟩

theorem addAside_cth {St : Std} (hS : LibOk St) {S : AV → List AV → List AV → List Blk} {M : AV → List AV} {ib il ik n i : Nat} (G : Grp S M ib il ik n i) (b : Bl) (t : List UInt8) (hl : t.length < 10000) (hsm : b.lines.length < 100000000) (hsk : b.kinds.length < 100000000) :
    CtH Tryz.prog St 128 [.ptr ib n i 0, .str t] (grpS S il ik b) (fun r s => r = .tup [] ∧ s = grpS S il ik (addB b 1 15 (wrapL 30 (40 :: (t ++ [41]))))) := by
  have hw := wrap_pch hS (40 :: (t ++ [41])) 30 (by simp; omega) (by omega) (by omega)
  have hle := wrapL_le 30 (40 :: (t ++ [41]))
  simp only [List.length_cons, List.length_append, List.length_nil] at hle
  refine cth_intro Tryz.func128 rfl Tryz.ntmps128 hB128 (by simp) fun h ρ w hg => goF (N := 10) Tryz.ntmps128 300 ?_
  simp only [go_sem, Nat.reduceAdd, Nat.reduceMul, Nat.reduceSub, Nat.reduceBEq, Nat.reduceLT, Nat.reduceLeDiff, reduceIte, reduceCtorEq, Int.reduceToNat, Int.reduceLE, Int.reduceLT, Int.reduceNe, Int.reduceMul, Int.reduceAdd, Int.reduceSub, Int.reduceDiv, Int.reduceMod, Int.reduceEq, Int.reduceGE, Int.reduceGT, Int.reduceNeg, Int.reduceBEq, Int.reduceBNe, Nat.reduceEqDiff]
  repeat refine And.intro (by first | omega | (simp; omega)) ?_
  refine pcallH1 hg (hw) rfl (N := 10) Tryz.ntmps128 rfl (goF (N := 10) Tryz.ntmps128 300 ?_)
  simp only [go_sem, Nat.reduceAdd, Nat.reduceMul, Nat.reduceSub, Nat.reduceBEq, Nat.reduceLT, Nat.reduceLeDiff, reduceIte, reduceCtorEq, Int.reduceToNat, Int.reduceLE, Int.reduceLT, Int.reduceNe, Int.reduceMul, Int.reduceAdd, Int.reduceSub, Int.reduceDiv, Int.reduceMod, Int.reduceEq, Int.reduceGE, Int.reduceGT, Int.reduceNeg, Int.reduceBEq, Int.reduceBNe, Nat.reduceEqDiff]
  refine acall (addLines_ct G b 1 15 (by omega) _ (by omega) (by omega) (fun l h => by have := hle.2 l h; omega)) (N := 10) Tryz.ntmps128 rfl ?_
  rintro _ _ ⟨rfl, rfl⟩
  refine goF (N := 10) Tryz.ntmps128 300 ?_
  simp only [go_sem, Nat.reduceAdd, Nat.reduceMul, Nat.reduceSub, Nat.reduceBEq, Nat.reduceLT, Nat.reduceLeDiff, reduceIte, reduceCtorEq, Int.reduceToNat, Int.reduceLE, Int.reduceLT, Int.reduceNe, Int.reduceMul, Int.reduceAdd, Int.reduceSub, Int.reduceDiv, Int.reduceMod, Int.reduceEq, Int.reduceGE, Int.reduceGT, Int.reduceNeg, Int.reduceBEq, Int.reduceBNe, Nat.reduceEqDiff]
  exact aret [] rfl ⟨rfl, rfl⟩
theorem addSpeech_cth {St : Std} (hS : LibOk St) {S : AV → List AV → List AV → List Blk} {M : AV → List AV} {ib il ik n i : Nat} (G : Grp S M ib il ik n i) (b : Bl) (t : List UInt8) (hl : t.length < 10000) (hsm : b.lines.length < 100000000) (hsk : b.kinds.length < 100000000) :
    CtH Tryz.prog St 129 [.ptr ib n i 0, .str t] (grpS S il ik b) (fun r s => r = .tup [] ∧ s = grpS S il ik (addB b 2 10 (wrapL 35 t))) := by
  have hw := wrap_pch hS t 35 (by omega) (by omega) (by omega)
  have hle := wrapL_le 35 t
  refine cth_intro Tryz.func129 rfl Tryz.ntmps129 hB129 (by simp) fun h ρ w hg => goF (N := 8) Tryz.ntmps129 300 ?_
  simp only [go_sem, Nat.reduceAdd, Nat.reduceMul, Nat.reduceSub, Nat.reduceBEq, Nat.reduceLT, Nat.reduceLeDiff, reduceIte, reduceCtorEq, Int.reduceToNat, Int.reduceLE, Int.reduceLT, Int.reduceNe, Int.reduceMul, Int.reduceAdd, Int.reduceSub, Int.reduceDiv, Int.reduceMod, Int.reduceEq, Int.reduceGE, Int.reduceGT, Int.reduceNeg, Int.reduceBEq, Int.reduceBNe, Nat.reduceEqDiff]
  refine pcallH1 hg (hw) rfl (N := 8) Tryz.ntmps129 rfl (goF (N := 8) Tryz.ntmps129 300 ?_)
  simp only [go_sem, Nat.reduceAdd, Nat.reduceMul, Nat.reduceSub, Nat.reduceBEq, Nat.reduceLT, Nat.reduceLeDiff, reduceIte, reduceCtorEq, Int.reduceToNat, Int.reduceLE, Int.reduceLT, Int.reduceNe, Int.reduceMul, Int.reduceAdd, Int.reduceSub, Int.reduceDiv, Int.reduceMod, Int.reduceEq, Int.reduceGE, Int.reduceGT, Int.reduceNeg, Int.reduceBEq, Int.reduceBNe, Nat.reduceEqDiff]
  refine acall (addLines_ct G b 2 10 (by omega) _ (by omega) (by omega) (fun l h => by have := hle.2 l h; omega)) (N := 8) Tryz.ntmps129 rfl ?_
  rintro _ _ ⟨rfl, rfl⟩
  refine goF (N := 8) Tryz.ntmps129 300 ?_
  simp only [go_sem, Nat.reduceAdd, Nat.reduceMul, Nat.reduceSub, Nat.reduceBEq, Nat.reduceLT, Nat.reduceLeDiff, reduceIte, reduceCtorEq, Int.reduceToNat, Int.reduceLE, Int.reduceLT, Int.reduceNe, Int.reduceMul, Int.reduceAdd, Int.reduceSub, Int.reduceDiv, Int.reduceMod, Int.reduceEq, Int.reduceGE, Int.reduceGT, Int.reduceNeg, Int.reduceBEq, Int.reduceBNe, Nat.reduceEqDiff]
  exact aret [] rfl ⟨rfl, rfl⟩

theorem newGroup_ct (b0 b1 b4 : Blk) (nm : List UInt8) (hl : nm.length < 10000) :
    Ct Tryz.prog 127 [.str nm] [b0, b1, .arr 1 [], .arr 1 [], b4] (fun r s => r = grpA 2 3 3 1 1 nm ∧ ∃ b5 b6, s = [b0, b1, .arr 1 [.str (indent 20 nm)], .arr 1 [.int .i64 0], b4, b5, b6]) := by
  refine ct_intro Tryz.func127 rfl Tryz.ntmps127 hB127 (by simp) fun h ρ w => goF (N := 10) Tryz.ntmps127 16 ?_
  simp only [go_sem, Nat.reduceAdd, Nat.reduceMul, Nat.reduceSub, Nat.reduceBEq, Nat.reduceLT, Nat.reduceLeDiff, reduceIte, reduceCtorEq, Int.reduceToNat, Int.reduceLE, Int.reduceLT, Int.reduceNe, Int.reduceMul, Int.reduceAdd, Int.reduceSub, Int.reduceDiv, Int.reduceMod, Int.reduceEq, Int.reduceGE, Int.reduceGT, Int.reduceNeg, Int.reduceBEq, Int.reduceBNe, Nat.reduceEqDiff]
  repeat refine And.intro (by first | omega | exact .inl trivial | rfl | (simp; done)) ?_
  refine AWp.shift (Shift.cellsAt 6 2 [.agg [.int .i64 3, .sl 2 0 0 0, .raw (.slice none 0 0), .str nm]] rfl rfl rfl (by simp [cellsOf]) ⟨.refl, .sl, .refl, .refl, trivial⟩) ?_
  refine AWp.shift (Shift.cellsAt 6 3 [.agg [.int .i64 3, .sl 2 0 0 0, .sl 3 0 0 0, .str nm]] rfl rfl rfl (by simp [cellsOf]) ⟨.refl, .refl, .sl, .refl, trivial⟩) ?_
  refine goF (N := 10) Tryz.ntmps127 300 ?_
  simp only [go_sem, Nat.reduceAdd, Nat.reduceMul, Nat.reduceSub, Nat.reduceBEq, Nat.reduceLT, Nat.reduceLeDiff, reduceIte, reduceCtorEq, Int.reduceToNat, Int.reduceLE, Int.reduceLT, Int.reduceNe, Int.reduceMul, Int.reduceAdd, Int.reduceSub, Int.reduceDiv, Int.reduceMod, Int.reduceEq, Int.reduceGE, Int.reduceGT, Int.reduceNeg, Int.reduceBEq, Int.reduceBNe, Nat.reduceEqDiff]
  have G : Grp (fun g L K => [b0, b1, .arr 1 L, .arr 1 K, b4, .arr 4 [.agg [.int .i64 0, .raw (.slice none 0 0), .raw (.slice none 0 0), .str []]], .arr 4 [g]]) (fun g => [g]) 6 2 3 1 0 :=
    ⟨by omega, fun _ _ _ => rfl, fun _ => rfl, fun _ => rfl, fun _ _ => rfl, fun _ _ _ _ => rfl, fun _ _ _ => rfl, fun _ _ _ _ => rfl, fun _ _ _ => rfl, fun _ _ _ _ => rfl⟩
  have hadd := addLines_ct G ⟨3, [], [], nm⟩ 0 20 (by omega) [nm] (by simp) (by simp) (by simp; omega)
  simp only [grpS, grpA, addB, List.length_nil, List.map_nil, List.map_cons, List.length_cons, List.nil_append, List.replicate] at hadd
  refine acall (hadd) (N := 10) Tryz.ntmps127 rfl ?_
  rintro _ _ ⟨rfl, rfl⟩
  refine goF (N := 10) Tryz.ntmps127 300 ?_
  simp only [go_sem, Nat.reduceAdd, Nat.reduceMul, Nat.reduceSub, Nat.reduceBEq, Nat.reduceLT, Nat.reduceLeDiff, reduceIte, reduceCtorEq, Int.reduceToNat, Int.reduceLE, Int.reduceLT, Int.reduceNe, Int.reduceMul, Int.reduceAdd, Int.reduceSub, Int.reduceDiv, Int.reduceMod, Int.reduceEq, Int.reduceGE, Int.reduceGT, Int.reduceNeg, Int.reduceBEq, Int.reduceBNe, Nat.reduceEqDiff]
  exact aretc [.cell 2 131] rfl [_] ⟨by simp only [go_sem, Nat.reduceAdd, Nat.reduceMul, Nat.reduceSub, Nat.reduceBEq, Nat.reduceLT, Nat.reduceLeDiff, reduceIte, reduceCtorEq, Int.reduceToNat, Int.reduceLE, Int.reduceLT, Int.reduceNe, Int.reduceMul, Int.reduceAdd, Int.reduceSub, Int.reduceDiv, Int.reduceMod, Int.reduceEq, Int.reduceGE, Int.reduceGT, Int.reduceNeg, Int.reduceBEq, Int.reduceBNe, Nat.reduceEqDiff, sideIs], trivial⟩ ⟨rfl, _, _, rfl⟩

def placeI (p : Int) : List UInt8 := [[], [73, 78, 84, 46], [69, 88, 84, 46], [73, 78, 84, 46, 47, 69, 88, 84, 46]].getD p.toNat []
def timeI (p : Int) : List UInt8 := [[], [68, 65, 89], [78, 73, 71, 72, 84], [68, 65, 87, 78], [68, 85, 83, 75], [76, 65, 84, 69, 82]].getD p.toNat []
def headLine (x : Sc) : List UInt8 := placeI x.place ++ [32] ++ x.set ++ [32, 45, 32] ++ timeI x.time
def headL (x : Sc) : List UInt8 := if x.no != [] then x.no ++ [32] ++ headLine x else headLine x
theorem place_of (p : Int) (h : 1 ≤ p ∧ p ≤ 3) : List.getD placeW p.toNat .any = .str (placeI p) := by
  obtain ⟨n, rfl⟩ := Int.eq_ofNat_of_zero_le (by omega : 0 ≤ p)
  have : n = 1 ∨ n = 2 ∨ n = 3 := by omega
  rcases this with rfl | rfl | rfl <;> rfl
theorem time_of (p : Int) (h : 1 ≤ p ∧ p ≤ 5) : List.getD timeW p.toNat .any = .str (timeI p) := by
  obtain ⟨n, rfl⟩ := Int.eq_ofNat_of_zero_le (by omega : 0 ≤ p)
  have : n = 1 ∨ n = 2 ∨ n = 3 ∨ n = 4 ∨ n = 5 := by omega
  rcases this with rfl | rfl | rfl | rfl | rfl <;> rfl
theorem placeI_len (p : Int) : (placeI p).length ≤ 9 := by
  unfold placeI
  match p.toNat with
  | 0 | 1 | 2 | 3 => decide
  | n + 4 => simp [List.getD]
theorem timeI_len (p : Int) : (timeI p).length ≤ 5 := by
  unfold timeI
  match p.toNat with
  | 0 | 1 | 2 | 3 | 4 | 5 => decide
  | n + 6 => simp [List.getD]
theorem heading_all_pc (x : Sc) (hp : 1 ≤ x.place ∧ x.place ≤ 3) (ht : 1 ≤ x.time ∧ x.time ≤ 5) (hl : x.no.length < 1000001) (hl2 : x.set.length < 10000) : Pc Tryz.prog 98 [scA x] (· = .str (headL x)) := by
  have h1 := place_of x.place hp
  have h2 := time_of x.time ht
  have l1 := placeI_len x.place
  have l2 := timeI_len x.time
  simp only [scA]
  refine pc_intro (ct_intro Tryz.func98 rfl Tryz.ntmps98 hB98 (by simp) fun h ρ w => goF (N := 29) Tryz.ntmps98 300 ?_)
  simp only [go_sem, Nat.reduceAdd, Nat.reduceMul, Nat.reduceSub, Nat.reduceBEq, Nat.reduceLT, Nat.reduceLeDiff, reduceIte, reduceCtorEq, Int.reduceToNat, Int.reduceLE, Int.reduceLT, Int.reduceNe, Int.reduceMul, Int.reduceAdd, Int.reduceSub, Int.reduceDiv, Int.reduceMod, Int.reduceEq, Int.reduceGE, Int.reduceGT, Int.reduceNeg, Int.reduceBEq, Int.reduceBNe, Nat.reduceEqDiff]
  refine adraw [.fz 1 placeW, .fz 1 timeW] mixed (by decide) (N := 29) Tryz.ntmps98 (by decide) 100 ?_
  simp only [go_sem, Nat.reduceAdd, Nat.reduceMul, Nat.reduceSub, Nat.reduceBEq, Nat.reduceLT, Nat.reduceLeDiff, reduceIte, reduceCtorEq, Int.reduceToNat, Int.reduceLE, Int.reduceLT, Int.reduceNe, Int.reduceMul, Int.reduceAdd, Int.reduceSub, Int.reduceDiv, Int.reduceMod, Int.reduceEq, Int.reduceGE, Int.reduceGT, Int.reduceNeg, Int.reduceBEq, Int.reduceBNe, Nat.reduceEqDiff, h1, h2]
  repeat refine And.intro (by first | omega | exact place_pc.at | exact time_pc.at | rfl | (simp [placeW, timeW]; done) | (simp [placeW, timeW]; omega)) ?_
  cases hn : x.no != [] with
  | true =>
    refine goF (N := 29) Tryz.ntmps98 300 ?_
    simp only [go_sem, Nat.reduceAdd, Nat.reduceMul, Nat.reduceSub, Nat.reduceBEq, Nat.reduceLT, Nat.reduceLeDiff, reduceIte, reduceCtorEq, Int.reduceToNat, Int.reduceLE, Int.reduceLT, Int.reduceNe, Int.reduceMul, Int.reduceAdd, Int.reduceSub, Int.reduceDiv, Int.reduceMod, Int.reduceEq, Int.reduceGE, Int.reduceGT, Int.reduceNeg, Int.reduceBEq, Int.reduceBNe, Nat.reduceEqDiff, hn]
    repeat refine And.intro (by first | omega | (simp; omega)) ?_
    exact aret [2] rfl ⟨by simp [resV, Av.get, headL, hn, headLine], rfl⟩
  | false =>
    refine goF (N := 29) Tryz.ntmps98 300 ?_
    simp only [go_sem, Nat.reduceAdd, Nat.reduceMul, Nat.reduceSub, Nat.reduceBEq, Nat.reduceLT, Nat.reduceLeDiff, reduceIte, reduceCtorEq, Int.reduceToNat, Int.reduceLE, Int.reduceLT, Int.reduceNe, Int.reduceMul, Int.reduceAdd, Int.reduceSub, Int.reduceDiv, Int.reduceMod, Int.reduceEq, Int.reduceGE, Int.reduceGT, Int.reduceNeg, Int.reduceBEq, Int.reduceBNe, Nat.reduceEqDiff, hn]
    exact aret [2] rfl ⟨by simp [resV, Av.get, headL, hn, headLine], rfl⟩
end Go.Proofs.YtpjbbpilgfihbaaGreatDoor
