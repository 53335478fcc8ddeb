/- Draws: Range, Pick, Flip, Names, Sets, words. Own work of this seat. -/
import Derived.Test.YtpjbbpilgfihbaaGreatDoorN6
import Derived.Test.YtpjbbpilgfihbaaGreatDoorN4
import Derived.Test.YtpjbbpilgfihbaaGreatDoorN5
import Derived.Test.YtpjbbpilgfihbaaGreatDoorN3
import Derived.Lib.AppendIntMem
set_option maxRecDepth 100000
set_option linter.unusedSimpArgs false
set_option linter.unusedVariables false
namespace Go.Proofs.YtpjbbpilgfihbaaGreatDoor
open Go Go.Av Go.RowKit
attribute [local go_sem ↓] br_true br_false dbr_true dbr_false dbri_true dbri_false dbrg_true dbrg_false
attribute [local go_sem] run cont br dbr dx dxc dgrd dyld dres dcall calm fieldPlace? allHas step1 opN grdN resN condN exitN stopN exitIt dOk xop xbin xint xarith xstr xbool xpick xnot xneg xextract xpart xpartOk xindex xfieldF fieldD xnew xbox xalloc xfieldAddr xptrAddIf xindexAddr xloadC xload putCells reElem xstoreB xstore xconv xtext xlen xlen2 xcall xfill xbuild cut rep xbuildSlice xbuildSliceD isRow elemD isU8 ev evs evp Go.Av.put Go.Av.get ofConst yldD yldV notBool_undef args0 cellsOf cond_true cond_false decide_true decide_false decide_eq_true_eq decide_eq_false_iff_not List.getElem?_cons_zero List.getElem?_cons_succ List.getElem?_nil List.getD_cons_zero List.getD_cons_succ List.getD_nil List.set_cons_zero List.set_cons_succ List.length_cons List.length_nil List.cons_append List.nil_append List.append_nil List.all_cons List.all_nil List.map_cons List.map_nil List.take_succ_cons List.take_zero List.drop_succ_cons List.drop_zero Bool.and_true Bool.true_and Bool.and_self Bool.and_false Bool.false_and one Go.Av.frozen beq_self_eq_true true_and and_true forall_const false_implies implies_true and_self Option.map_some Option.map_none Nat.zero_add Nat.add_zero Nat.zero_mul Nat.mul_one Nat.one_mul Int.toNat_zero ne_eq not_false_eq_true not_true_eq_false Bool.true_eq_false Bool.false_eq_true List.toList_toArray inr Go.Av.byteOf isByte decide_eq_decide Bool.not_true Bool.not_false Bool.not_eq_true' Bool.or_true Bool.true_or Bool.or_false Bool.false_or ge_iff_le gt_iff_lt and_assoc Bool.decide_eq_true beq_iff_eq beq_eq_false_iff_ne bne_iff_ne bne_self_eq_false if_true if_false Bool.and_eq_true Bool.or_eq_true Bool.and_eq_false_imp Bool.or_eq_false_iff Bool.not_eq_false' has Option.isSome_some Option.isSome_none Int.toNat_natCast Int.cast_ofNat_Int List.length_append xapp2 xapp xappS xappD xappB notInt srcOf srcB byteAV splice' xcut xcutS xcutF xcutB xcutN xcut0 cutL loOf hiOf evo xmake zelem xmax xcopy2 xcopyS xcopyB xnil xcut3 ixOf xclear2 xclearB List.getElem?_toArray xbin2 xnileq xempty xmkmap xmput xmputB xmputF isKey keyEq mfind xbin3 xeqs xeqop eqFs bothB leafEq xlook xlookB xlookF xbytes beq_c_n beq_n_c bne_c_n bne_n_c one_nil dxi dxic dbri rix dck reader blind opOk refOk Go.Op.operands Go.Call.operands List.contains_cons List.contains_nil dxg dxgc dbrg pck putD List.lookup_cons List.lookup_nil ts2 tb2 zl2 za2 Tryz.underlying2 ts3 tb3 zl3 za3 Tryz.underlying3 ts4 tb4 zl4 za4 Tryz.underlying4 ts5 tb5 zl5 za5 Tryz.underlying5 ts6 tb6 zl6 za6 Tryz.underlying6 ts7 tb7 za7 Tryz.underlying7 ts8 tb8 za8 Tryz.underlying8 ts9 tb9 zl9 za9 Tryz.underlying9 ts10 tb10 zl10 za10 Tryz.underlying10 ts11 tb11 zl11 za11 Tryz.underlying11 ts12 tb12 zl12 za12 Tryz.underlying12 ts13 tb13 za13 Tryz.underlying13 ts14 tb14 za14 Tryz.underlying14 ts18 tb18 za18 Tryz.underlying18 ts19 tb19 za19 Tryz.underlying19 ts21 tb21 zl21 za21 Tryz.underlying21 ts22 tb22 zl22 za22 Tryz.underlying22 ts24 tb24 za24 Tryz.underlying24 ts25 tb25 za25 Tryz.underlying25 ts27 tb27 zl27 za27 Tryz.underlying27 ts35 tb35 zl35 za35 Tryz.underlying35 ts36 tb36 za36 Tryz.underlying36 ts37 tb37 za37 Tryz.underlying37 ts39 tb39 zl39 za39 Tryz.underlying39 ts41 tb41 za41 Tryz.underlying41 ts42 tb42 za42 Tryz.underlying42 ts63 tb63 zl63 za63 Tryz.underlying63 ts64 tb64 zl64 za64 Tryz.underlying64 ts65 tb65 za65 Tryz.underlying65 ts66 tb66 za66 Tryz.underlying66 ts67 tb67 zl67 za67 Tryz.underlying67 ts69 tb69 za69 Tryz.underlying69 ts70 tb70 za70 Tryz.underlying70 ts73 tb73 za73 Tryz.underlying73 ts74 tb74 za74 Tryz.underlying74 ts75 tb75 zl75 za75 Tryz.underlying75 ts82 tb82 zl82 za82 Tryz.underlying82 ts96 tb96 za96 Tryz.underlying96 ts97 tb97 za97 Tryz.underlying97 ts103 tb103 za103 Tryz.underlying103 ts104 tb104 za104 Tryz.underlying104 ts109 tb109 zl109 za109 Tryz.underlying109 ts116 tb116 zl116 za116 Tryz.underlying116 ts117 tb117 za117 Tryz.underlying117 ts118 tb118 za118 Tryz.underlying118 ts120 tb120 zl120 za120 Tryz.underlying120 ts124 tb124 zl124 za124 Tryz.underlying124 ts126 tb126 za126 Tryz.underlying126 ts128 tb128 zl128 za128 Tryz.underlying128 ts130 tb130 za130 Tryz.underlying130 ts131 tb131 za131 Tryz.underlying131 ts153 tb153 zl153 za153 Tryz.underlying153 ts167 tb167 zl167 za167 Tryz.underlying167 ts171 tb171 zl171 za171 Tryz.underlying171 ts177 tb177 zl177 za177 Tryz.underlying177 ts183 tb183 zl183 za183 Tryz.underlying183 ts189 tb189 zl189 za189 Tryz.underlying189 ts191 tb191 zl191 za191 Tryz.underlying191 ts195 tb195 za195 Tryz.underlying195 ts196 tb196 za196 Tryz.underlying196 ts198 tb198 zl198 za198 Tryz.underlying198 ts203 tb203 Tryz.underlying203 ts209 tb209 za209 Tryz.underlying209 ts210 tb210 za210 Tryz.underlying210 ts211 tb211 Tryz.underlying211 ts216 tb216 za216 Tryz.underlying216 ts217 tb217 za217 Tryz.underlying217 ts220 tb220 Tryz.underlying220 ts225 tb225 Tryz.underlying225 ts226 tb226 Tryz.underlying226 ts227 tb227 za227 Tryz.underlying227 ts228 tb228 za228 Tryz.underlying228 ts232 tb232 zl232 za232 Tryz.underlying232 ts233 tb233 zl233 za233 Tryz.underlying233 ts235 tb235 zl235 za235 Tryz.underlying235 ts236 tb236 zl236 za236 Tryz.underlying236 ts237 tb237 za237 Tryz.underlying237 ts238 tb238 za238 Tryz.underlying238

theorem flip_mc (L : List Int) (k n : Int) (h1 : 1 ≤ n) (h2 : n ≤ 1000) (h3 : 0 ≤ k) (h4 : k ≤ 1000000) :
    Mc Tryz.prog 28 2 (str L k) [.int .i64 n] (fun r s => (∃ b, r = .bool b) ∧ s = str L (k + 1)) := by
  refine ct_intro Tryz.func28 rfl Tryz.ntmps28 hB28 (by simp) fun h ρ w => go (N := 9) Tryz.ntmps28 300 ?_
  simp only [go_sem, Nat.reduceAdd, Nat.reduceMul, Nat.reduceSub, Nat.reduceBEq, Nat.reduceLT, Nat.reduceLeDiff, reduceIte, reduceCtorEq, Int.reduceToNat, Int.reduceLE, Int.reduceLT, Int.reduceNe, Int.reduceMul, Int.reduceAdd, Int.reduceSub, Int.reduceDiv, Int.reduceMod, Int.reduceEq, Int.reduceGE, Int.reduceGT, Int.reduceNeg, Int.reduceBEq, Int.reduceBNe, Nat.reduceEqDiff]
  refine mcall (next_mc L k _ (by omega) (by omega) h3 h4) rfl rfl (id := 0) rfl (N := 9) Tryz.ntmps28 rfl ?_
  rintro _ _ ⟨⟨v, rfl, hv0, hv1⟩, rfl⟩
  refine go (N := 9) Tryz.ntmps28 300 ?_
  simp only [go_sem, Nat.reduceAdd, Nat.reduceMul, Nat.reduceSub, Nat.reduceBEq, Nat.reduceLT, Nat.reduceLeDiff, reduceIte, reduceCtorEq, Int.reduceToNat, Int.reduceLE, Int.reduceLT, Int.reduceNe, Int.reduceMul, Int.reduceAdd, Int.reduceSub, Int.reduceDiv, Int.reduceMod, Int.reduceEq, Int.reduceGE, Int.reduceGT, Int.reduceNeg, Int.reduceBEq, Int.reduceBNe, Nat.reduceEqDiff]
  exact aret [4] rfl ⟨_, _, rfl, ⟨_, rfl⟩, rfl, rfl, rfl⟩

theorem range_mc (L : List Int) (k a b : Int) (h1 : 0 ≤ a) (h2 : a ≤ b) (hb : b ≤ 1000) (h3 : 0 ≤ k) (h4 : k ≤ 1000000) :
    Mc Tryz.prog 104 2 (str L k) [.int .i64 a, .int .i64 b] (fun r s => (∃ v, r = .int .i64 v ∧ a ≤ v ∧ v ≤ b) ∧ s = str L (k + 1)) := by
  have d : decide (b < a) = false := by simp; omega
  refine ct_intro Tryz.func104 rfl Tryz.ntmps104 hB104 (by simp) fun h ρ w => go (N := 19) Tryz.ntmps104 300 ?_
  simp only [go_sem, Nat.reduceAdd, Nat.reduceMul, Nat.reduceSub, Nat.reduceBEq, Nat.reduceLT, Nat.reduceLeDiff, reduceIte, reduceCtorEq, Int.reduceToNat, Int.reduceLE, Int.reduceLT, Int.reduceNe, Int.reduceMul, Int.reduceAdd, Int.reduceSub, Int.reduceDiv, Int.reduceMod, Int.reduceEq, Int.reduceGE, Int.reduceGT, Int.reduceNeg, Int.reduceBEq, Int.reduceBNe, Nat.reduceEqDiff, d]
  refine ⟨by omega, by omega, by omega, by omega, ?_⟩
  refine mcall (next_mc L k _ (by omega) (by omega) h3 h4) rfl rfl (id := 0) rfl (N := 19) Tryz.ntmps104 rfl ?_
  rintro _ _ ⟨⟨v, rfl, hv0, hv1⟩, rfl⟩
  refine go (N := 19) Tryz.ntmps104 300 ?_
  simp only [go_sem, Nat.reduceAdd, Nat.reduceMul, Nat.reduceSub, Nat.reduceBEq, Nat.reduceLT, Nat.reduceLeDiff, reduceIte, reduceCtorEq, Int.reduceToNat, Int.reduceLE, Int.reduceLT, Int.reduceNe, Int.reduceMul, Int.reduceAdd, Int.reduceSub, Int.reduceDiv, Int.reduceMod, Int.reduceEq, Int.reduceGE, Int.reduceGT, Int.reduceNeg, Int.reduceBEq, Int.reduceBNe, Nat.reduceEqDiff]
  refine ⟨by omega, by omega, ?_⟩
  exact aret [6] rfl ⟨_, _, rfl, ⟨_, rfl, by omega, by omega⟩, rfl, rfl, rfl⟩

theorem pick_mc (L : List Int) (k : Int) (ls : List Int) (h1 : 1 ≤ ls.length) (h2 : ls.length ≤ 1000) (h3 : 0 ≤ k) (h4 : k ≤ 1000000) :
    Mc Tryz.prog 106 2 (str L k) [.fz 1 (ls.map (.int .i64))] (fun r s => (∃ x ∈ ls, r = .int .i64 x) ∧ s = str L (k + 1)) := by
  have hlen : ((List.map (AV.int .i64) ls).length : Int) = ls.length := by simp
  refine ct_intro Tryz.func106 rfl Tryz.ntmps106 hB106 (by simp) fun h ρ w => go (N := 12) Tryz.ntmps106 300 ?_
  simp only [go_sem, Nat.reduceAdd, Nat.reduceMul, Nat.reduceSub, Nat.reduceBEq, Nat.reduceLT, Nat.reduceLeDiff, reduceIte, reduceCtorEq, Int.reduceToNat, Int.reduceLE, Int.reduceLT, Int.reduceNe, Int.reduceMul, Int.reduceAdd, Int.reduceSub, Int.reduceDiv, Int.reduceMod, Int.reduceEq, Int.reduceGE, Int.reduceGT, Int.reduceNeg, Int.reduceBEq, Int.reduceBNe, Nat.reduceEqDiff]
  refine mcall (next_mc L k _ (by omega) (by omega) h3 h4) rfl rfl (id := 0) rfl (N := 12) Tryz.ntmps106 rfl ?_
  rintro _ _ ⟨⟨v, rfl, hv0, hv1⟩, rfl⟩
  have hv : v.toNat < ls.length := by omega
  have hx : (List.map (AV.int .i64) ls).getD v.toNat .any = .int .i64 ls[v.toNat] := by simp [List.getD, hv]
  refine go (N := 12) Tryz.ntmps106 300 ?_
  simp only [go_sem, Nat.reduceAdd, Nat.reduceMul, Nat.reduceSub, Nat.reduceBEq, Nat.reduceLT, Nat.reduceLeDiff, reduceIte, reduceCtorEq, Int.reduceToNat, Int.reduceLE, Int.reduceLT, Int.reduceNe, Int.reduceMul, Int.reduceAdd, Int.reduceSub, Int.reduceDiv, Int.reduceMod, Int.reduceEq, Int.reduceGE, Int.reduceGT, Int.reduceNeg, Int.reduceBEq, Int.reduceBNe, Nat.reduceEqDiff, hx]
  refine ⟨by omega, by omega, by simpa using hv, ?_⟩
  exact aret [4] rfl ⟨_, _, rfl, ⟨_, List.getElem_mem hv, rfl⟩, rfl, rfl, rfl⟩

def NameL : List (List UInt8) := [[65, 78, 78], [66, 79], [68, 82, 46, 32, 88], [65, 78, 78, 45, 77, 65, 82, 73, 69]]
def SetL : List (List UInt8) := [[72, 65, 76, 76], [77, 73, 76, 76], [66, 65, 82, 78, 32, 47, 32, 76, 79, 70, 84]]

theorem names_pc : Pc Tryz.prog 147 [] (· = .fz 1 (NameL.map .str)) := by
  refine pc_intro (ct_intro Tryz.func147 rfl Tryz.ntmps147 hB147 (by simp) fun h ρ w => goF (N := 2) Tryz.ntmps147 300 ?_)
  simp only [go_sem, Nat.reduceAdd, Nat.reduceMul, Nat.reduceSub, Nat.reduceBEq, Nat.reduceLT, Nat.reduceLeDiff, reduceIte, reduceCtorEq, Int.reduceToNat, Int.reduceLE, Int.reduceLT, Int.reduceNe, Int.reduceMul, Int.reduceAdd, Int.reduceSub, Int.reduceDiv, Int.reduceMod, Int.reduceEq, Int.reduceGE, Int.reduceGT, Int.reduceNeg, Int.reduceBEq, Int.reduceBNe, Nat.reduceEqDiff]
  exact aret [0] rfl ⟨rfl, rfl⟩
theorem sets_pc : Pc Tryz.prog 105 [] (· = .fz 1 (SetL.map .str)) := by
  refine pc_intro (ct_intro Tryz.func105 rfl Tryz.ntmps105 hB105 (by simp) fun h ρ w => goF (N := 2) Tryz.ntmps105 300 ?_)
  simp only [go_sem, Nat.reduceAdd, Nat.reduceMul, Nat.reduceSub, Nat.reduceBEq, Nat.reduceLT, Nat.reduceLeDiff, reduceIte, reduceCtorEq, Int.reduceToNat, Int.reduceLE, Int.reduceLT, Int.reduceNe, Int.reduceMul, Int.reduceAdd, Int.reduceSub, Int.reduceDiv, Int.reduceMod, Int.reduceEq, Int.reduceGE, Int.reduceGT, Int.reduceNeg, Int.reduceBEq, Int.reduceBNe, Nat.reduceEqDiff]
  exact aret [0] rfl ⟨rfl, rfl⟩

/-- the bytes of drawn words, of drawn texts -/
def wordC (c : UInt8) : Bool := okB c && (c != 40 && (c != 41 && c != 86))
def textC (c : UInt8) : Bool := okB c && c != 86
theorem wordC_text (c : UInt8) (h : wordC c = true) : textC c = true := by
  simp only [wordC, textC, Bool.and_eq_true] at h ⊢
  exact ⟨h.1, h.2.2.2⟩
theorem textC_ok (c : UInt8) (h : textC c = true) : okB c = true := by
  simp only [textC, Bool.and_eq_true] at h
  exact h.1

def WordL : List (List UInt8) := [[114, 97, 105, 110], [84, 119, 111], [103, 117, 110, 115], [65, 78, 78], [66, 111], [97], [116, 104, 101], [114, 101, 100], [99, 97, 114, 46], [115, 111, 108, 100, 105, 101, 114, 115], [49, 50],
  [100, 111, 110, 39, 116], [45, 45], [97, 98, 99, 100, 101, 102, 103, 104, 105, 106, 107, 108, 109, 110, 111, 112, 113, 114, 115, 116, 117, 118, 119, 120, 121, 122, 97, 98, 99, 100, 101, 102, 103, 104, 105, 106, 107, 108, 109, 110, 111, 112, 113, 114, 115, 116, 117, 118, 119, 120, 121, 122], [99, 97, 114]]
theorem word_ok : (WordL.all fun x => textB wordC x && decide (x.length ≤ 52)) = true := by decide +kernel
theorem word_of {x : List UInt8} (h : x ∈ WordL) : TextOk wordC x ∧ x.length ≤ 52 := by
  have := List.all_eq_true.1 word_ok x h
  simp only [Bool.and_eq_true, decide_eq_true_eq] at this
  exact ⟨textB_ok this.1, this.2⟩

theorem words_mc (L : List Int) (k m b : Int) (h1 : 1 ≤ m) (h2 : m ≤ 80) (h5 : 60 ≤ b) (h6 : b ≤ 2000) (h3 : 0 ≤ k) (h4 : k ≤ 900000) :
    Mc Tryz.prog 146 2 (str L k) [.int .i64 m, .int .i64 b] (fun r s => ∃ (t : List UInt8) (k' : Int), r = .str t ∧ TextOk wordC t ∧ (t.length : Int) ≤ b ∧ s = str L k' ∧ k ≤ k' ∧ k' ≤ k + 81) := by
  refine ct_intro Tryz.func146 rfl Tryz.ntmps146 hB146 (by simp) fun h ρ w => goF (N := 33) Tryz.ntmps146 300 ?_
  simp only [go_sem, Nat.reduceAdd, Nat.reduceMul, Nat.reduceSub, Nat.reduceBEq, Nat.reduceLT, Nat.reduceLeDiff, reduceIte, reduceCtorEq, Int.reduceToNat, Int.reduceLE, Int.reduceLT, Int.reduceNe, Int.reduceMul, Int.reduceAdd, Int.reduceSub, Int.reduceDiv, Int.reduceMod, Int.reduceEq, Int.reduceGE, Int.reduceGT, Int.reduceNeg, Int.reduceBEq, Int.reduceBNe, Nat.reduceEqDiff]
  refine mcall (range_mc L k 1 m (by omega) (by omega) (by omega) h3 (by omega)) rfl rfl (id := 0) rfl (N := 33) Tryz.ntmps146 rfl ?_
  rintro _ _ ⟨⟨v, rfl, hv0, hv1⟩, rfl⟩
  refine goF (N := 33) Tryz.ntmps146 300 ?_
  simp only [go_sem, Nat.reduceAdd, Nat.reduceMul, Nat.reduceSub, Nat.reduceBEq, Nat.reduceLT, Nat.reduceLeDiff, reduceIte, reduceCtorEq, Int.reduceToNat, Int.reduceLE, Int.reduceLT, Int.reduceNe, Int.reduceMul, Int.reduceAdd, Int.reduceSub, Int.reduceDiv, Int.reduceMod, Int.reduceEq, Int.reduceGE, Int.reduceGT, Int.reduceNeg, Int.reduceBEq, Int.reduceBNe, Nat.reduceEqDiff]
  refine aloopX (ι := Int × List UInt8) (κ := Int × List UInt8) (fun x => (v - x.1).toNat)
    (fun x => [(12, .int .i64 x.1), (11, .int .i64 v), (7, .str x.2), (2, .int .i64 b), (0, .ptr 0 1 0 0)])
    (fun x => [.arr 2 [str L (k + 1 + x.1)]])
    (fun x => 0 ≤ x.1 ∧ x.1 ≤ v ∧ (x.2.length : Int) ≤ b ∧ (x.1 = 0 → x.2 = []) ∧ (0 < x.1 → TextOk wordC x.2))
    (fun x => [(7, .str x.2), (0, .ptr 0 1 0 0)]) (fun x => [.arr 2 [str L x.1]])
    (fun x => k + 1 ≤ x.1 ∧ x.1 ≤ k + 81 ∧ (x.2.length : Int) ≤ b ∧ TextOk wordC x.2)
    (0, []) ⟨by omega, by omega, by simp; omega, by simp, by simp⟩ ?_ ?_ ?_
  · have h0 : k + 1 + 0 = k + 1 := by omega
    simp only [h0]
    refine Shift.weak ?_
    simp only [wk, go_sem, Nat.reduceAdd, Nat.reduceMul, Nat.reduceSub, Nat.reduceBEq, Nat.reduceLT, Nat.reduceLeDiff, reduceIte, reduceCtorEq, Int.reduceToNat, Int.reduceLE, Int.reduceLT, Int.reduceNe, Int.reduceMul, Int.reduceAdd, Int.reduceSub, Int.reduceDiv, Int.reduceMod, Int.reduceEq, Int.reduceGE, Int.reduceGT, Int.reduceNeg, Int.reduceBEq, Int.reduceBNe, Nat.reduceEqDiff]
  · rintro ⟨k', t⟩ ⟨g1, g2, g3, g4⟩
    simp only at g1 g2 g3 g4 ⊢
    refine go (N := 33) Tryz.ntmps146 300 ?_
    simp only [go_sem, Nat.reduceAdd, Nat.reduceMul, Nat.reduceSub, Nat.reduceBEq, Nat.reduceLT, Nat.reduceLeDiff, reduceIte, reduceCtorEq, Int.reduceToNat, Int.reduceLE, Int.reduceLT, Int.reduceNe, Int.reduceMul, Int.reduceAdd, Int.reduceSub, Int.reduceDiv, Int.reduceMod, Int.reduceEq, Int.reduceGE, Int.reduceGT, Int.reduceNeg, Int.reduceBEq, Int.reduceBNe, Nat.reduceEqDiff]
    exact aret [6] rfl ⟨_, _, rfl, ⟨t, k', rfl, g4, g3, rfl, by omega, by omega⟩, rfl, rfl⟩
  · rintro ⟨i, t⟩ ⟨g1, g2, g3, g4, g5⟩ J Q hJ hQ
    simp only at g1 g2 g3 g4 g5 hJ hQ ⊢
    refine goF (N := 33) Tryz.ntmps146 300 ?_
    by_cases gi : i < v
    · have d1 : decide (i < v) = true := by simp; omega
      simp only [go_sem, Nat.reduceAdd, Nat.reduceMul, Nat.reduceSub, Nat.reduceBEq, Nat.reduceLT, Nat.reduceLeDiff, reduceIte, reduceCtorEq, Int.reduceToNat, Int.reduceLE, Int.reduceLT, Int.reduceNe, Int.reduceMul, Int.reduceAdd, Int.reduceSub, Int.reduceDiv, Int.reduceMod, Int.reduceEq, Int.reduceGE, Int.reduceGT, Int.reduceNeg, Int.reduceBEq, Int.reduceBNe, Nat.reduceEqDiff, d1]
      refine mcall (one_mc L (k + 1 + i) WordL (by decide) (by decide) (by omega) (by omega)) rfl rfl (id := 0) rfl (N := 33) Tryz.ntmps146 rfl ?_
      rintro _ _ ⟨⟨x, hx, rfl⟩, rfl⟩
      obtain ⟨x1, x2⟩ := word_of hx
      have e1 : k + 1 + i + 1 = k + 1 + (i + 1) := by omega
      by_cases ht : t = []
      · subst ht
        have d3 : decide (((0 : Nat) : Int) + (x.length : Int) > b) = false := by simp; omega
        refine goF (N := 33) Tryz.ntmps146 300 ?_
        simp only [go_sem, Nat.reduceAdd, Nat.reduceMul, Nat.reduceSub, Nat.reduceBEq, Nat.reduceLT, Nat.reduceLeDiff, reduceIte, reduceCtorEq, Int.reduceToNat, Int.reduceLE, Int.reduceLT, Int.reduceNe, Int.reduceMul, Int.reduceAdd, Int.reduceSub, Int.reduceDiv, Int.reduceMod, Int.reduceEq, Int.reduceGE, Int.reduceGT, Int.reduceNeg, Int.reduceBEq, Int.reduceBNe, Nat.reduceEqDiff, d3]
        refine ⟨by omega, by omega, fun gl => (by simp at gl; omega), fun gl => ?_⟩
        repeat refine And.intro (by omega) ?_
        rw [e1]
        refine ainv (hJ (i + 1, x) ⟨by omega, by omega, by simp; omega, by intro h; simp at h; omega, fun _ => x1⟩ (by simp; omega)) (Shift.weak ?_)
        simp only [wk, go_sem, Nat.reduceAdd, Nat.reduceMul, Nat.reduceSub, Nat.reduceBEq, Nat.reduceLT, Nat.reduceLeDiff, reduceIte, reduceCtorEq, Int.reduceToNat, Int.reduceLE, Int.reduceLT, Int.reduceNe, Int.reduceMul, Int.reduceAdd, Int.reduceSub, Int.reduceDiv, Int.reduceMod, Int.reduceEq, Int.reduceGE, Int.reduceGT, Int.reduceNeg, Int.reduceBEq, Int.reduceBNe, Nat.reduceEqDiff]
      · have i0 : 0 < i := by
          rcases Int.lt_or_eq_of_le g1 with h | h
          · exact h
          · exact (ht (g4 h.symm)).elim
        have d2 : (t != []) = true := by simp [ht]
        have d2' : (t == []) = false := by simp [ht]
        refine goF (N := 33) Tryz.ntmps146 300 ?_
        simp only [go_sem, Nat.reduceAdd, Nat.reduceMul, Nat.reduceSub, Nat.reduceBEq, Nat.reduceLT, Nat.reduceLeDiff, reduceIte, reduceCtorEq, Int.reduceToNat, Int.reduceLE, Int.reduceLT, Int.reduceNe, Int.reduceMul, Int.reduceAdd, Int.reduceSub, Int.reduceDiv, Int.reduceMod, Int.reduceEq, Int.reduceGE, Int.reduceGT, Int.reduceNeg, Int.reduceBEq, Int.reduceBNe, Nat.reduceEqDiff, d2, d2']
        repeat refine And.intro (by omega) ?_
        refine ⟨fun gl => ?_, fun gl => ?_⟩
        · rw [e1]
          refine ainv (hQ (k + 1 + (i + 1), t) ⟨by omega, by omega, g3, g5 i0⟩) (Shift.weak ?_)
          simp only [wk, go_sem, Nat.reduceAdd, Nat.reduceMul, Nat.reduceSub, Nat.reduceBEq, Nat.reduceLT, Nat.reduceLeDiff, reduceIte, reduceCtorEq, Int.reduceToNat, Int.reduceLE, Int.reduceLT, Int.reduceNe, Int.reduceMul, Int.reduceAdd, Int.reduceSub, Int.reduceDiv, Int.reduceMod, Int.reduceEq, Int.reduceGE, Int.reduceGT, Int.reduceNeg, Int.reduceBEq, Int.reduceBNe, Nat.reduceEqDiff]
        · repeat refine And.intro (by omega) ?_
          rw [e1]
          refine ainv (hJ (i + 1, t ++ 32 :: x) ⟨by omega, by omega, by simp; simp at gl; omega, by intro h; simp at h; omega, fun _ => (g5 i0).join rfl x1⟩ (by simp; omega)) (Shift.weak ?_)
          simp only [wk, go_sem, Nat.reduceAdd, Nat.reduceMul, Nat.reduceSub, Nat.reduceBEq, Nat.reduceLT, Nat.reduceLeDiff, reduceIte, reduceCtorEq, Int.reduceToNat, Int.reduceLE, Int.reduceLT, Int.reduceNe, Int.reduceMul, Int.reduceAdd, Int.reduceSub, Int.reduceDiv, Int.reduceMod, Int.reduceEq, Int.reduceGE, Int.reduceGT, Int.reduceNeg, Int.reduceBEq, Int.reduceBNe, Nat.reduceEqDiff]
    · have d1 : decide (i < v) = false := by simp; omega
      simp only [go_sem, Nat.reduceAdd, Nat.reduceMul, Nat.reduceSub, Nat.reduceBEq, Nat.reduceLT, Nat.reduceLeDiff, reduceIte, reduceCtorEq, Int.reduceToNat, Int.reduceLE, Int.reduceLT, Int.reduceNe, Int.reduceMul, Int.reduceAdd, Int.reduceSub, Int.reduceDiv, Int.reduceMod, Int.reduceEq, Int.reduceGE, Int.reduceGT, Int.reduceNeg, Int.reduceBEq, Int.reduceBNe, Nat.reduceEqDiff, d1]
      refine ainv (hQ (k + 1 + i, t) ⟨by omega, by omega, g3, g5 (by omega)⟩) (Shift.weak ?_)
      simp only [wk, go_sem, Nat.reduceAdd, Nat.reduceMul, Nat.reduceSub, Nat.reduceBEq, Nat.reduceLT, Nat.reduceLeDiff, reduceIte, reduceCtorEq, Int.reduceToNat, Int.reduceLE, Int.reduceLT, Int.reduceNe, Int.reduceMul, Int.reduceAdd, Int.reduceSub, Int.reduceDiv, Int.reduceMod, Int.reduceEq, Int.reduceGE, Int.reduceGT, Int.reduceNeg, Int.reduceBEq, Int.reduceBNe, Nat.reduceEqDiff]
end Go.Proofs.YtpjbbpilgfihbaaGreatDoor
/- Draws: the paragraphs of a block. Own work of this seat. -/
set_option maxRecDepth 100000
set_option linter.unusedSimpArgs false
set_option linter.unusedVariables false
namespace Go.Proofs.YtpjbbpilgfihbaaGreatDoor
open Go Go.Av Go.RowKit
attribute [local go_sem ↓] br_true br_false dbr_true dbr_false dbri_true dbri_false dbrg_true dbrg_false
attribute [local go_sem] run cont br dbr dx dxc dgrd dyld dres dcall calm fieldPlace? allHas step1 opN grdN resN condN exitN stopN exitIt dOk xop xbin xint xarith xstr xbool xpick xnot xneg xextract xpart xpartOk xindex xfieldF fieldD xnew xbox xalloc xfieldAddr xptrAddIf xindexAddr xloadC xload putCells reElem xstoreB xstore xconv xtext xlen xlen2 xcall xfill xbuild cut rep xbuildSlice xbuildSliceD isRow elemD isU8 ev evs evp Go.Av.put Go.Av.get ofConst yldD yldV notBool_undef args0 cellsOf cond_true cond_false decide_true decide_false decide_eq_true_eq decide_eq_false_iff_not List.getElem?_cons_zero List.getElem?_cons_succ List.getElem?_nil List.getD_cons_zero List.getD_cons_succ List.getD_nil List.set_cons_zero List.set_cons_succ List.length_cons List.length_nil List.cons_append List.nil_append List.append_nil List.all_cons List.all_nil List.map_cons List.map_nil List.take_succ_cons List.take_zero List.drop_succ_cons List.drop_zero Bool.and_true Bool.true_and Bool.and_self Bool.and_false Bool.false_and one Go.Av.frozen beq_self_eq_true true_and and_true forall_const false_implies implies_true and_self Option.map_some Option.map_none Nat.zero_add Nat.add_zero Nat.zero_mul Nat.mul_one Nat.one_mul Int.toNat_zero ne_eq not_false_eq_true not_true_eq_false Bool.true_eq_false Bool.false_eq_true List.toList_toArray inr Go.Av.byteOf isByte decide_eq_decide Bool.not_true Bool.not_false Bool.not_eq_true' Bool.or_true Bool.true_or Bool.or_false Bool.false_or ge_iff_le gt_iff_lt and_assoc Bool.decide_eq_true beq_iff_eq beq_eq_false_iff_ne bne_iff_ne bne_self_eq_false if_true if_false Bool.and_eq_true Bool.or_eq_true Bool.and_eq_false_imp Bool.or_eq_false_iff Bool.not_eq_false' has Option.isSome_some Option.isSome_none Int.toNat_natCast Int.cast_ofNat_Int List.length_append xapp2 xapp xappS xappD xappB notInt srcOf srcB byteAV splice' xcut xcutS xcutF xcutB xcutN xcut0 cutL loOf hiOf evo xmake zelem xmax xcopy2 xcopyS xcopyB xnil xcut3 ixOf xclear2 xclearB List.getElem?_toArray xbin2 xnileq xempty xmkmap xmput xmputB xmputF isKey keyEq mfind xbin3 xeqs xeqop eqFs bothB leafEq xlook xlookB xlookF xbytes beq_c_n beq_n_c bne_c_n bne_n_c one_nil dxi dxic dbri rix dck reader blind opOk refOk Go.Op.operands Go.Call.operands List.contains_cons List.contains_nil dxg dxgc dbrg pck putD List.lookup_cons List.lookup_nil ts2 tb2 zl2 za2 Tryz.underlying2 ts3 tb3 zl3 za3 Tryz.underlying3 ts4 tb4 zl4 za4 Tryz.underlying4 ts5 tb5 zl5 za5 Tryz.underlying5 ts6 tb6 zl6 za6 Tryz.underlying6 ts7 tb7 za7 Tryz.underlying7 ts8 tb8 za8 Tryz.underlying8 ts9 tb9 zl9 za9 Tryz.underlying9 ts10 tb10 zl10 za10 Tryz.underlying10 ts11 tb11 zl11 za11 Tryz.underlying11 ts12 tb12 zl12 za12 Tryz.underlying12 ts13 tb13 za13 Tryz.underlying13 ts14 tb14 za14 Tryz.underlying14 ts18 tb18 za18 Tryz.underlying18 ts19 tb19 za19 Tryz.underlying19 ts21 tb21 zl21 za21 Tryz.underlying21 ts22 tb22 zl22 za22 Tryz.underlying22 ts24 tb24 za24 Tryz.underlying24 ts25 tb25 za25 Tryz.underlying25 ts27 tb27 zl27 za27 Tryz.underlying27 ts35 tb35 zl35 za35 Tryz.underlying35 ts36 tb36 za36 Tryz.underlying36 ts37 tb37 za37 Tryz.underlying37 ts39 tb39 zl39 za39 Tryz.underlying39 ts41 tb41 za41 Tryz.underlying41 ts42 tb42 za42 Tryz.underlying42 ts63 tb63 zl63 za63 Tryz.underlying63 ts64 tb64 zl64 za64 Tryz.underlying64 ts65 tb65 za65 Tryz.underlying65 ts66 tb66 za66 Tryz.underlying66 ts67 tb67 zl67 za67 Tryz.underlying67 ts69 tb69 za69 Tryz.underlying69 ts70 tb70 za70 Tryz.underlying70 ts73 tb73 za73 Tryz.underlying73 ts74 tb74 za74 Tryz.underlying74 ts75 tb75 zl75 za75 Tryz.underlying75 ts82 tb82 zl82 za82 Tryz.underlying82 ts96 tb96 za96 Tryz.underlying96 ts97 tb97 za97 Tryz.underlying97 ts103 tb103 za103 Tryz.underlying103 ts104 tb104 za104 Tryz.underlying104 ts109 tb109 zl109 za109 Tryz.underlying109 ts116 tb116 zl116 za116 Tryz.underlying116 ts117 tb117 za117 Tryz.underlying117 ts118 tb118 za118 Tryz.underlying118 ts120 tb120 zl120 za120 Tryz.underlying120 ts124 tb124 zl124 za124 Tryz.underlying124 ts126 tb126 za126 Tryz.underlying126 ts128 tb128 zl128 za128 Tryz.underlying128 ts130 tb130 za130 Tryz.underlying130 ts131 tb131 za131 Tryz.underlying131 ts153 tb153 zl153 za153 Tryz.underlying153 ts167 tb167 zl167 za167 Tryz.underlying167 ts171 tb171 zl171 za171 Tryz.underlying171 ts177 tb177 zl177 za177 Tryz.underlying177 ts183 tb183 zl183 za183 Tryz.underlying183 ts189 tb189 zl189 za189 Tryz.underlying189 ts191 tb191 zl191 za191 Tryz.underlying191 ts195 tb195 za195 Tryz.underlying195 ts196 tb196 za196 Tryz.underlying196 ts198 tb198 zl198 za198 Tryz.underlying198 ts203 tb203 Tryz.underlying203 ts209 tb209 za209 Tryz.underlying209 ts210 tb210 za210 Tryz.underlying210 ts211 tb211 Tryz.underlying211 ts216 tb216 za216 Tryz.underlying216 ts217 tb217 za217 Tryz.underlying217 ts220 tb220 Tryz.underlying220 ts225 tb225 Tryz.underlying225 ts226 tb226 Tryz.underlying226 ts227 tb227 za227 Tryz.underlying227 ts228 tb228 za228 Tryz.underlying228 ts232 tb232 zl232 za232 Tryz.underlying232 ts233 tb233 zl233 za233 Tryz.underlying233 ts235 tb235 zl235 za235 Tryz.underlying235 ts236 tb236 zl236 za236 Tryz.underlying236 ts237 tb237 za237 Tryz.underlying237 ts238 tb238 za238 Tryz.underlying238

/-- what paragraphs come to: the kind of the last one, if all are right -/
def runL : Int → List Pa → Option Int
  | l, [] => some l
  | l, p :: r => if paraOk p && followsL p.kind l then runL p.kind r else none
theorem runL_append : ∀ (a b : List Pa) (l e : Int), runL l a = some e → runL l (a ++ b) = runL e b
  | [], b, l, e, h => by
    simp only [runL, Option.some.injEq] at h
    subst h; rfl
  | p :: a, b, l, e, h => by
    simp only [runL] at h
    simp only [List.cons_append, runL]
    split at h
    · rename_i hc
      rw [if_pos hc]
      exact runL_append a b p.kind e h
    · simp at h
theorem runL_one {a : List Pa} {l e : Int} {p : Pa} (h : runL l a = some e) (h1 : paraOk p = true) (h2 : followsL p.kind e = true) : runL l (a ++ [p]) = some p.kind := by
  rw [runL_append a _ l e h]
  simp [runL, h1, h2]

def TurnL : List (List UInt8) := [[67, 85, 84, 32, 84, 79], [70, 65, 68, 69, 32, 79, 85, 84, 46], [69, 78, 68], [65, 78, 78]]
def PreA : List (List UInt8) := [[64], [62, 32], [35, 32], [92], [40], [35]]
def PreB : List (List UInt8) := [[40], [92], [35], [64]]

/-- a paragraph that is drawn -/
structure DrawnP (p : Pa) : Prop where
  text : TextOk textC p.text
  kind : 1 ≤ p.kind ∧ p.kind ≤ 5
  name : p.kind = 2 → p.text ∈ NameL
  ok : paraOk p = true

theorem drawn_text {k : Int} {t : List UInt8} (hk : k = 1 ∨ k = 4) (h : TextOk textC t) (hl : t.length ≤ 2000) : DrawnP ⟨k, t⟩ := by
  have hp := plain_of textC_ok h
  have hn : (t != []) = true := by simpa using h.ne
  refine ⟨h, by simp only; omega, by simp only; omega, ?_⟩
  rcases hk with rfl | rfl <;> simp [paraOk, hp, hn, hl]
theorem drawn_aside {t : List UInt8} (h : TextOk wordC t) (hl : t.length ≤ 200) : DrawnP ⟨3, t⟩ := by
  have h' := h.weak wordC_text
  have hp := plain_of textC_ok h'
  have hn : (t != []) = true := by simpa using h.ne
  have hc : Lib.containsAny t [40, 41] = false := by
    have : Lib.NoAny t [40, 41] t.length := fun j b _ hj => by
      have := List.all_eq_true.1 h.all b (List.mem_of_getElem? hj)
      simp only [wordC, Bool.and_eq_true, bne_iff_ne] at this
      simp [this.2.1, this.2.2.1]
    simp [Lib.containsAny, Lib.indexAny_none this]
  refine ⟨h', by simp, by simp, ?_⟩
  have h2 : t.length ≤ 2000 := by omega
  simp [paraOk, hp, hn, hl, hc, h2]
theorem name_all : (NameL.all fun t => textB textC t && paraOk ⟨2, t⟩) = true := by decide +kernel
theorem turn_all : (TurnL.all fun t => textB textC t && paraOk ⟨5, t⟩) = true := by decide +kernel
theorem drawn_name {t : List UInt8} (h : t ∈ NameL) : DrawnP ⟨2, t⟩ := by
  have := List.all_eq_true.1 name_all t h
  simp only [Bool.and_eq_true] at this
  exact ⟨textB_ok this.1, by simp, fun _ => h, this.2⟩
theorem drawn_turn {t : List UInt8} (h : t ∈ TurnL) : DrawnP ⟨5, t⟩ := by
  have := List.all_eq_true.1 turn_all t h
  simp only [Bool.and_eq_true] at this
  exact ⟨textB_ok this.1, by simp, by simp, this.2⟩
def preB (a : List UInt8) : Bool := a.all textC && (noDbl a && (a.head? != some 32 && (a != [] && decide (a.length ≤ 2))))
theorem pre_all : (PreA.all preB && PreB.all preB) = true := by decide +kernel
theorem pre_text {a t : List UInt8} (h : a ∈ PreA ∨ a ∈ PreB) (y : TextOk wordC t) : TextOk textC (a ++ t) ∧ a.length ≤ 2 := by
  have hp : preB a = true := by
    have := pre_all
    simp only [Bool.and_eq_true] at this
    rcases h with h | h
    · exact List.all_eq_true.1 this.1 a h
    · exact List.all_eq_true.1 this.2 a h
  simp only [preB, Bool.and_eq_true, bne_iff_ne, decide_eq_true_eq] at hp
  exact ⟨TextOk.pre wordC_text hp.1 hp.2.1 hp.2.2.1 hp.2.2.2.1 y, hp.2.2.2.2⟩

/-- a block of paragraphs that is drawn -/
structure Block (b : List Pa) : Prop where
  run : ∀ l, l ≠ 2 → l ≠ 3 → ∃ e, runL l b = some e ∧ e ≠ 2 ∧ e ≠ 3
  len : 1 ≤ b.length ∧ b.length ≤ 5
  all : ∀ p ∈ b, DrawnP p
theorem follows_free {k l : Int} (hk : k ≠ 3) (hk' : k ≠ 4) (h2 : l ≠ 2) (h3 : l ≠ 3) : followsL k l = true := by simp [followsL, hk, hk', h2, h3]
theorem block_one {p : Pa} (h : DrawnP p) (hk : p.kind = 1 ∨ p.kind = 5) : Block [p] := by
  refine ⟨fun l h2 h3 => ⟨p.kind, ?_, by omega, by omega⟩, by simp, by simpa using h⟩
  simp [runL, h.ok, follows_free (show p.kind ≠ 3 by omega) (show p.kind ≠ 4 by omega) h2 h3]

theorem frozen_paras (ps : List Pa) : (flat (ps.map paA)).all Av.frozen = true := by
  induction ps with
  | nil => rfl
  | cons y l ih => simpa [flat, cellsOf, paA, Av.frozen] using ih

set_option maxHeartbeats 2000000 in
theorem paras_mc (L : List Int) (k : Int) (h3 : 0 ≤ k) (h4 : k ≤ 800000) :
    Mc Tryz.prog 107 2 (str L k) [] (fun r s => ∃ (b : List Pa) (k' : Int), r = .fz 2 (b.map paA) ∧ Block b ∧ s = str L k' ∧ k ≤ k' ∧ k' ≤ k + 400) := by
  refine ct_intro Tryz.func107 rfl Tryz.ntmps107 hB107 (by simp) fun h ρ w => goF (N := 72) Tryz.ntmps107 300 ?_
  simp only [go_sem, Nat.reduceAdd, Nat.reduceMul, Nat.reduceSub, Nat.reduceBEq, Nat.reduceLT, Nat.reduceLeDiff, reduceIte, reduceCtorEq, Int.reduceToNat, Int.reduceLE, Int.reduceLT, Int.reduceNe, Int.reduceMul, Int.reduceAdd, Int.reduceSub, Int.reduceDiv, Int.reduceMod, Int.reduceEq, Int.reduceGE, Int.reduceGT, Int.reduceNeg, Int.reduceBEq, Int.reduceBNe, Nat.reduceEqDiff]
  refine mcall (next_mc L k _ (by omega) (by omega) h3 (by omega)) rfl rfl (id := 0) rfl (N := 72) Tryz.ntmps107 rfl ?_
  rintro _ _ ⟨⟨v, rfl, hv0, hv1⟩, rfl⟩
  have hv : (v = 0 ∨ v = 1) ∨ v = 2 ∨ ((v == 0) = false ∧ (v == 1) = false ∧ (v == 2) = false) := by
    by_cases a : v = 0
    · exact .inl (.inl a)
    by_cases b : v = 1
    · exact .inl (.inr b)
    by_cases c : v = 2
    · exact .inr (.inl c)
    exact .inr (.inr ⟨by simpa using a, by simpa using b, by simpa using c⟩)
  rcases hv with hv | rfl | ⟨d0, d1, d2⟩
  · have picks : ∀ x ∈ [(3 : Int), 12, 60], 1 ≤ x ∧ x ≤ 80 := by decide
    rcases hv with rfl | rfl <;>
    · refine goF (N := 72) Tryz.ntmps107 300 ?_
      simp only [go_sem, Nat.reduceAdd, Nat.reduceMul, Nat.reduceSub, Nat.reduceBEq, Nat.reduceLT, Nat.reduceLeDiff, reduceIte, reduceCtorEq, Int.reduceToNat, Int.reduceLE, Int.reduceLT, Int.reduceNe, Int.reduceMul, Int.reduceAdd, Int.reduceSub, Int.reduceDiv, Int.reduceMod, Int.reduceEq, Int.reduceGE, Int.reduceGT, Int.reduceNeg, Int.reduceBEq, Int.reduceBNe, Nat.reduceEqDiff]
      refine mcall (pick_mc L (k + 1) [3, 12, 60] (by decide) (by decide) (by omega) (by omega)) rfl rfl (id := 0) rfl (N := 72) Tryz.ntmps107 rfl ?_
      rintro _ _ ⟨⟨x, hx, rfl⟩, rfl⟩
      refine goF (N := 72) Tryz.ntmps107 300 ?_
      simp only [go_sem, Nat.reduceAdd, Nat.reduceMul, Nat.reduceSub, Nat.reduceBEq, Nat.reduceLT, Nat.reduceLeDiff, reduceIte, reduceCtorEq, Int.reduceToNat, Int.reduceLE, Int.reduceLT, Int.reduceNe, Int.reduceMul, Int.reduceAdd, Int.reduceSub, Int.reduceDiv, Int.reduceMod, Int.reduceEq, Int.reduceGE, Int.reduceGT, Int.reduceNeg, Int.reduceBEq, Int.reduceBNe, Nat.reduceEqDiff]
      refine mcall (words_mc L (k + 1 + 1) x 1998 (picks x hx).1 (picks x hx).2 (by omega) (by omega) (by omega) (by omega)) rfl rfl (id := 0) rfl (N := 72) Tryz.ntmps107 rfl ?_
      rintro _ _ ⟨t, k', rfl, t1, t2, rfl, t3, t4⟩
      refine goF (N := 72) Tryz.ntmps107 300 ?_
      simp only [go_sem, Nat.reduceAdd, Nat.reduceMul, Nat.reduceSub, Nat.reduceBEq, Nat.reduceLT, Nat.reduceLeDiff, reduceIte, reduceCtorEq, Int.reduceToNat, Int.reduceLE, Int.reduceLT, Int.reduceNe, Int.reduceMul, Int.reduceAdd, Int.reduceSub, Int.reduceDiv, Int.reduceMod, Int.reduceEq, Int.reduceGE, Int.reduceGT, Int.reduceNeg, Int.reduceBEq, Int.reduceBNe, Nat.reduceEqDiff]
      refine mcall (flip_mc L k' 8 (by omega) (by omega) (by omega) (by omega)) rfl rfl (id := 0) rfl (N := 72) Tryz.ntmps107 rfl ?_
      rintro _ _ ⟨⟨b, rfl⟩, rfl⟩
      cases b with
      | true =>
        refine goF (N := 72) Tryz.ntmps107 300 ?_
        simp only [go_sem, Nat.reduceAdd, Nat.reduceMul, Nat.reduceSub, Nat.reduceBEq, Nat.reduceLT, Nat.reduceLeDiff, reduceIte, reduceCtorEq, Int.reduceToNat, Int.reduceLE, Int.reduceLT, Int.reduceNe, Int.reduceMul, Int.reduceAdd, Int.reduceSub, Int.reduceDiv, Int.reduceMod, Int.reduceEq, Int.reduceGE, Int.reduceGT, Int.reduceNeg, Int.reduceBEq, Int.reduceBNe, Nat.reduceEqDiff]
        refine mcall (one_mc L (k' + 1) PreA (by decide) (by decide) (by omega) (by omega)) rfl rfl (id := 0) rfl (N := 72) Tryz.ntmps107 rfl ?_
        rintro _ _ ⟨⟨y, hy, rfl⟩, rfl⟩
        refine goF (N := 72) Tryz.ntmps107 300 ?_
        simp only [go_sem, Nat.reduceAdd, Nat.reduceMul, Nat.reduceSub, Nat.reduceBEq, Nat.reduceLT, Nat.reduceLeDiff, reduceIte, reduceCtorEq, Int.reduceToNat, Int.reduceLE, Int.reduceLT, Int.reduceNe, Int.reduceMul, Int.reduceAdd, Int.reduceSub, Int.reduceDiv, Int.reduceMod, Int.reduceEq, Int.reduceGE, Int.reduceGT, Int.reduceNeg, Int.reduceBEq, Int.reduceBNe, Nat.reduceEqDiff]
        obtain ⟨u1, u2⟩ := pre_text (.inl hy) t1
        refine ⟨by omega, ?_⟩
        exact aret [2] rfl ⟨_, _, rfl, ⟨[⟨1, y ++ t⟩], k' + 1 + 1, rfl, block_one (drawn_text (.inl rfl) u1 (by simp; omega)) (.inl rfl), rfl, by omega, by omega⟩, rfl, rfl⟩
      | false =>
        refine goF (N := 72) Tryz.ntmps107 300 ?_
        simp only [go_sem, Nat.reduceAdd, Nat.reduceMul, Nat.reduceSub, Nat.reduceBEq, Nat.reduceLT, Nat.reduceLeDiff, reduceIte, reduceCtorEq, Int.reduceToNat, Int.reduceLE, Int.reduceLT, Int.reduceNe, Int.reduceMul, Int.reduceAdd, Int.reduceSub, Int.reduceDiv, Int.reduceMod, Int.reduceEq, Int.reduceGE, Int.reduceGT, Int.reduceNeg, Int.reduceBEq, Int.reduceBNe, Nat.reduceEqDiff]
        exact aret [2] rfl ⟨_, _, rfl, ⟨[⟨1, t⟩], k' + 1, rfl, block_one (drawn_text (.inl rfl) (t1.weak wordC_text) (by omega)) (.inl rfl), rfl, by omega, by omega⟩, rfl, rfl⟩
  · refine goF (N := 72) Tryz.ntmps107 300 ?_
    simp only [go_sem, Nat.reduceAdd, Nat.reduceMul, Nat.reduceSub, Nat.reduceBEq, Nat.reduceLT, Nat.reduceLeDiff, reduceIte, reduceCtorEq, Int.reduceToNat, Int.reduceLE, Int.reduceLT, Int.reduceNe, Int.reduceMul, Int.reduceAdd, Int.reduceSub, Int.reduceDiv, Int.reduceMod, Int.reduceEq, Int.reduceGE, Int.reduceGT, Int.reduceNeg, Int.reduceBEq, Int.reduceBNe, Nat.reduceEqDiff]
    refine mcall (one_mc L (k + 1) TurnL (by decide) (by decide) (by omega) (by omega)) rfl rfl (id := 0) rfl (N := 72) Tryz.ntmps107 rfl ?_
    rintro _ _ ⟨⟨y, hy, rfl⟩, rfl⟩
    refine goF (N := 72) Tryz.ntmps107 300 ?_
    simp only [go_sem, Nat.reduceAdd, Nat.reduceMul, Nat.reduceSub, Nat.reduceBEq, Nat.reduceLT, Nat.reduceLeDiff, reduceIte, reduceCtorEq, Int.reduceToNat, Int.reduceLE, Int.reduceLT, Int.reduceNe, Int.reduceMul, Int.reduceAdd, Int.reduceSub, Int.reduceDiv, Int.reduceMod, Int.reduceEq, Int.reduceGE, Int.reduceGT, Int.reduceNeg, Int.reduceBEq, Int.reduceBNe, Nat.reduceEqDiff]
    exact aret [2] rfl ⟨_, _, rfl, ⟨[⟨5, y⟩], k + 1 + 1, rfl, block_one (drawn_turn hy) (.inr rfl), rfl, by omega, by omega⟩, rfl, rfl⟩
  · refine go (N := 72) Tryz.ntmps107 300 ?_
    simp only [go_sem, Nat.reduceAdd, Nat.reduceMul, Nat.reduceSub, Nat.reduceBEq, Nat.reduceLT, Nat.reduceLeDiff, reduceIte, reduceCtorEq, Int.reduceToNat, Int.reduceLE, Int.reduceLT, Int.reduceNe, Int.reduceMul, Int.reduceAdd, Int.reduceSub, Int.reduceDiv, Int.reduceMod, Int.reduceEq, Int.reduceGE, Int.reduceGT, Int.reduceNeg, Int.reduceBEq, Int.reduceBNe, Nat.reduceEqDiff, d0, d1, d2]
    refine pcall1 (names_pc) rfl (N := 72) Tryz.ntmps107 rfl (go (N := 72) Tryz.ntmps107 300 ?_)
    simp only [go_sem, Nat.reduceAdd, Nat.reduceMul, Nat.reduceSub, Nat.reduceBEq, Nat.reduceLT, Nat.reduceLeDiff, reduceIte, reduceCtorEq, Int.reduceToNat, Int.reduceLE, Int.reduceLT, Int.reduceNe, Int.reduceMul, Int.reduceAdd, Int.reduceSub, Int.reduceDiv, Int.reduceMod, Int.reduceEq, Int.reduceGE, Int.reduceGT, Int.reduceNeg, Int.reduceBEq, Int.reduceBNe, Nat.reduceEqDiff, d0, d1, d2]
    refine mcall (one_mc L (k + 1) NameL (by decide) (by decide) (by omega) (by omega)) rfl rfl (id := 0) rfl (N := 72) Tryz.ntmps107 rfl ?_
    rintro _ _ ⟨⟨y, hy, rfl⟩, rfl⟩
    refine go (N := 72) Tryz.ntmps107 300 ?_
    simp only [go_sem, Nat.reduceAdd, Nat.reduceMul, Nat.reduceSub, Nat.reduceBEq, Nat.reduceLT, Nat.reduceLeDiff, reduceIte, reduceCtorEq, Int.reduceToNat, Int.reduceLE, Int.reduceLT, Int.reduceNe, Int.reduceMul, Int.reduceAdd, Int.reduceSub, Int.reduceDiv, Int.reduceMod, Int.reduceEq, Int.reduceGE, Int.reduceGT, Int.reduceNeg, Int.reduceBEq, Int.reduceBNe, Nat.reduceEqDiff]
    refine mcall (range_mc L (k + 1 + 1) 1 2 (by omega) (by omega) (by omega) (by omega) (by omega)) rfl rfl (id := 0) rfl (N := 72) Tryz.ntmps107 rfl ?_
    rintro _ _ ⟨⟨n, rfl, hn1, hn2⟩, rfl⟩
    refine go (N := 72) Tryz.ntmps107 300 ?_
    simp only [go_sem, Nat.reduceAdd, Nat.reduceMul, Nat.reduceSub, Nat.reduceBEq, Nat.reduceLT, Nat.reduceLeDiff, reduceIte, reduceCtorEq, Int.reduceToNat, Int.reduceLE, Int.reduceLT, Int.reduceNe, Int.reduceMul, Int.reduceAdd, Int.reduceSub, Int.reduceDiv, Int.reduceMod, Int.reduceEq, Int.reduceGE, Int.reduceGT, Int.reduceNeg, Int.reduceBEq, Int.reduceBNe, Nat.reduceEqDiff]
    have dn := drawn_name hy
    refine aloop (ι := Int × Int × Int × List Pa) (fun x => (n - x.1).toNat)
      (fun x => [(40, .int .i64 x.1), (39, .int .i64 n), (4, .sl 1 0 x.2.2.2.length x.2.2.2.length), (0, .ptr 0 1 0 0)])
      (fun x => [.arr 2 [str L x.2.1], .arr 2 (x.2.2.2.map paA)])
      (fun x => 0 ≤ x.1 ∧ x.1 ≤ n ∧ k ≤ x.2.1 ∧ x.2.1 ≤ k + 3 + 170 * x.1 ∧ (x.2.2.1 = 2 ∨ x.2.2.1 = 4) ∧ (0 < x.1 → x.2.2.1 = 4) ∧ (∀ l, l ≠ 2 → l ≠ 3 → runL l x.2.2.2 = some x.2.2.1) ∧ (∀ p ∈ x.2.2.2, DrawnP p) ∧ 1 ≤ x.2.2.2.length ∧ (x.2.2.2.length : Int) ≤ 1 + 2 * x.1)
      (0, k + 1 + 1 + 1, 2, [⟨2, y⟩]) ⟨Int.le_refl _, by simp only; omega, by simp only; omega, by simp only; omega, .inl rfl, by simp, ?_, by simpa using dn, by simp, by simp⟩ ?_ ?_
    · intro l h2 h3
      simp [runL, dn.ok, follows_free (show (2 : Int) ≠ 3 by decide) (show (2 : Int) ≠ 4 by decide) h2 h3]
    · refine Shift.weak ?_
      simp only [wk, go_sem, Nat.reduceAdd, Nat.reduceMul, Nat.reduceSub, Nat.reduceBEq, Nat.reduceLT, Nat.reduceLeDiff, reduceIte, reduceCtorEq, Int.reduceToNat, Int.reduceLE, Int.reduceLT, Int.reduceNe, Int.reduceMul, Int.reduceAdd, Int.reduceSub, Int.reduceDiv, Int.reduceMod, Int.reduceEq, Int.reduceGE, Int.reduceGT, Int.reduceNeg, Int.reduceBEq, Int.reduceBNe, Nat.reduceEqDiff]
    · rintro ⟨i, k', e, out⟩ ⟨g1, g2, g3, g4, g5, g6, g7, g8, g9, g10⟩ J hJ
      simp only at g1 g2 g3 g4 g5 g6 g7 g8 g9 g10 hJ ⊢
      refine goF (N := 72) Tryz.ntmps107 300 ?_
      by_cases gi : i < n
      · have di : decide (i < n) = true := by simp; omega
        simp only [go_sem, Nat.reduceAdd, Nat.reduceMul, Nat.reduceSub, Nat.reduceBEq, Nat.reduceLT, Nat.reduceLeDiff, reduceIte, reduceCtorEq, Int.reduceToNat, Int.reduceLE, Int.reduceLT, Int.reduceNe, Int.reduceMul, Int.reduceAdd, Int.reduceSub, Int.reduceDiv, Int.reduceMod, Int.reduceEq, Int.reduceGE, Int.reduceGT, Int.reduceNeg, Int.reduceBEq, Int.reduceBNe, Nat.reduceEqDiff, di]
        refine mcall (flip_mc L k' 3 (by omega) (by omega) (by omega) (by omega)) rfl rfl (id := 0) rfl (N := 72) Tryz.ntmps107 rfl ?_
        rintro _ _ ⟨⟨b, rfl⟩, rfl⟩
        refine amid (κ := Int × Int × List Pa)
          (fun x => [(40, .int .i64 i), (39, .int .i64 n), (4, .sl 1 0 x.2.2.length x.2.2.length), (0, .ptr 0 1 0 0)])
          (fun x => [.arr 2 [str L x.1], .arr 2 (x.2.2.map paA)])
          (fun x => k' ≤ x.1 ∧ x.1 ≤ k' + 84 ∧ (x.2.1 = 2 ∨ x.2.1 = 3 ∨ x.2.1 = 4) ∧ (∀ l, l ≠ 2 → l ≠ 3 → runL l x.2.2 = some x.2.1) ∧ (∀ p ∈ x.2.2, DrawnP p) ∧ 1 ≤ x.2.2.length ∧ (x.2.2.length : Int) ≤ 2 + 2 * i) ?_ ?_
        · rintro ⟨k2, e2, out2⟩ ⟨f1, f2, f3, f4, f5, f6, f7⟩
          simp only at f1 f2 f3 f4 f5 f6 f7 ⊢
          refine goF (N := 72) Tryz.ntmps107 300 ?_
          simp only [go_sem, Nat.reduceAdd, Nat.reduceMul, Nat.reduceSub, Nat.reduceBEq, Nat.reduceLT, Nat.reduceLeDiff, reduceIte, reduceCtorEq, Int.reduceToNat, Int.reduceLE, Int.reduceLT, Int.reduceNe, Int.reduceMul, Int.reduceAdd, Int.reduceSub, Int.reduceDiv, Int.reduceMod, Int.reduceEq, Int.reduceGE, Int.reduceGT, Int.reduceNeg, Int.reduceBEq, Int.reduceBNe, Nat.reduceEqDiff]
          refine mcall (pick_mc L k2 [3, 12, 80] (by decide) (by decide) (by omega) (by omega)) rfl rfl (id := 0) rfl (N := 72) Tryz.ntmps107 rfl ?_
          rintro _ _ ⟨⟨x, hx, rfl⟩, rfl⟩
          have px : 1 ≤ x ∧ x ≤ 80 := (show ∀ x ∈ [(3 : Int), 12, 80], 1 ≤ x ∧ x ≤ 80 by decide) x hx
          refine goF (N := 72) Tryz.ntmps107 300 ?_
          simp only [go_sem, Nat.reduceAdd, Nat.reduceMul, Nat.reduceSub, Nat.reduceBEq, Nat.reduceLT, Nat.reduceLeDiff, reduceIte, reduceCtorEq, Int.reduceToNat, Int.reduceLE, Int.reduceLT, Int.reduceNe, Int.reduceMul, Int.reduceAdd, Int.reduceSub, Int.reduceDiv, Int.reduceMod, Int.reduceEq, Int.reduceGE, Int.reduceGT, Int.reduceNeg, Int.reduceBEq, Int.reduceBNe, Nat.reduceEqDiff]
          refine mcall (words_mc L (k2 + 1) x 1998 px.1 px.2 (by omega) (by omega) (by omega) (by omega)) rfl rfl (id := 0) rfl (N := 72) Tryz.ntmps107 rfl ?_
          rintro _ _ ⟨t, k3, rfl, t1, t2, rfl, t3, t4⟩
          refine goF (N := 72) Tryz.ntmps107 300 ?_
          simp only [go_sem, Nat.reduceAdd, Nat.reduceMul, Nat.reduceSub, Nat.reduceBEq, Nat.reduceLT, Nat.reduceLeDiff, reduceIte, reduceCtorEq, Int.reduceToNat, Int.reduceLE, Int.reduceLT, Int.reduceNe, Int.reduceMul, Int.reduceAdd, Int.reduceSub, Int.reduceDiv, Int.reduceMod, Int.reduceEq, Int.reduceGE, Int.reduceGT, Int.reduceNeg, Int.reduceBEq, Int.reduceBNe, Nat.reduceEqDiff]
          refine mcall (flip_mc L k3 8 (by omega) (by omega) (by omega) (by omega)) rfl rfl (id := 0) rfl (N := 72) Tryz.ntmps107 rfl ?_
          rintro _ _ ⟨⟨b, rfl⟩, rfl⟩
          have fol : followsL 4 e2 = true := by rcases f3 with rfl | rfl | rfl <;> rfl
          have e3 : ∀ q u, List.map paA out2 ++ [AV.agg [.int .i64 q, .str u]] = List.map paA (out2 ++ [⟨q, u⟩]) := fun q u => by simp [paA]
          have e4 : ∀ q u, out2.length + 1 = (out2 ++ [(⟨q, u⟩ : Pa)]).length := fun q u => by simp
          have next : ∀ (q : Pa) (k4 : Int), DrawnP q → q.kind = 4 → k3 ≤ k4 → k4 ≤ k3 + 2 → _ := fun q k4 hq hk h1 h2 => hJ (i + 1, k4, 4, out2 ++ [q]) ⟨by simp only; omega, by simp only; omega, by simp only; omega, by simp only; omega, .inr rfl, fun _ => rfl,
            fun l l2 l3 => hk ▸ runL_one (f4 l l2 l3) hq.ok (hk ▸ fol), fun p hp => by
              rcases List.mem_append.1 hp with hp | hp
              · exact f5 p hp
              · rw [List.mem_singleton.1 hp]; exact hq, by simp, by simp only [List.length_append, List.length_cons, List.length_nil]; omega⟩ (by simp only; omega)
          cases b with
          | true =>
            refine goF (N := 72) Tryz.ntmps107 300 ?_
            simp only [go_sem, Nat.reduceAdd, Nat.reduceMul, Nat.reduceSub, Nat.reduceBEq, Nat.reduceLT, Nat.reduceLeDiff, reduceIte, reduceCtorEq, Int.reduceToNat, Int.reduceLE, Int.reduceLT, Int.reduceNe, Int.reduceMul, Int.reduceAdd, Int.reduceSub, Int.reduceDiv, Int.reduceMod, Int.reduceEq, Int.reduceGE, Int.reduceGT, Int.reduceNeg, Int.reduceBEq, Int.reduceBNe, Nat.reduceEqDiff]
            refine mcall (one_mc L (k3 + 1) PreB (by decide) (by decide) (by omega) (by omega)) rfl rfl (id := 0) rfl (N := 72) Tryz.ntmps107 rfl ?_
            rintro _ _ ⟨⟨y, hy, rfl⟩, rfl⟩
            obtain ⟨u1, u2⟩ := pre_text (.inr hy) t1
            refine goF (N := 72) Tryz.ntmps107 300 ?_
            simp only [go_sem, Nat.reduceAdd, Nat.reduceMul, Nat.reduceSub, Nat.reduceBEq, Nat.reduceLT, Nat.reduceLeDiff, reduceIte, reduceCtorEq, Int.reduceToNat, Int.reduceLE, Int.reduceLT, Int.reduceNe, Int.reduceMul, Int.reduceAdd, Int.reduceSub, Int.reduceDiv, Int.reduceMod, Int.reduceEq, Int.reduceGE, Int.reduceGT, Int.reduceNeg, Int.reduceBEq, Int.reduceBNe, Nat.reduceEqDiff]
            refine ⟨by omega, by simp, .inl trivial, by simp; omega, by simp; omega, by omega, by omega, ?_⟩
            rw [e3, e4 4 (y ++ t)]
            refine ainv (next ⟨4, y ++ t⟩ (k3 + 1 + 1) (drawn_text (.inr rfl) u1 (by simp; omega)) rfl (by omega) (by omega)) (Shift.weak ?_)
            simp only [wk, go_sem, Nat.reduceAdd, Nat.reduceMul, Nat.reduceSub, Nat.reduceBEq, Nat.reduceLT, Nat.reduceLeDiff, reduceIte, reduceCtorEq, Int.reduceToNat, Int.reduceLE, Int.reduceLT, Int.reduceNe, Int.reduceMul, Int.reduceAdd, Int.reduceSub, Int.reduceDiv, Int.reduceMod, Int.reduceEq, Int.reduceGE, Int.reduceGT, Int.reduceNeg, Int.reduceBEq, Int.reduceBNe, Nat.reduceEqDiff]
          | false =>
            refine goF (N := 72) Tryz.ntmps107 300 ?_
            simp only [go_sem, Nat.reduceAdd, Nat.reduceMul, Nat.reduceSub, Nat.reduceBEq, Nat.reduceLT, Nat.reduceLeDiff, reduceIte, reduceCtorEq, Int.reduceToNat, Int.reduceLE, Int.reduceLT, Int.reduceNe, Int.reduceMul, Int.reduceAdd, Int.reduceSub, Int.reduceDiv, Int.reduceMod, Int.reduceEq, Int.reduceGE, Int.reduceGT, Int.reduceNeg, Int.reduceBEq, Int.reduceBNe, Nat.reduceEqDiff]
            refine ⟨by simp, .inl trivial, by simp; omega, by simp; omega, by omega, by omega, ?_⟩
            rw [e3, e4 4 t]
            refine ainv (next ⟨4, t⟩ (k3 + 1) (drawn_text (.inr rfl) (t1.weak wordC_text) (by omega)) rfl (by omega) (by omega)) (Shift.weak ?_)
            simp only [wk, go_sem, Nat.reduceAdd, Nat.reduceMul, Nat.reduceSub, Nat.reduceBEq, Nat.reduceLT, Nat.reduceLeDiff, reduceIte, reduceCtorEq, Int.reduceToNat, Int.reduceLE, Int.reduceLT, Int.reduceNe, Int.reduceMul, Int.reduceAdd, Int.reduceSub, Int.reduceDiv, Int.reduceMod, Int.reduceEq, Int.reduceGE, Int.reduceGT, Int.reduceNeg, Int.reduceBEq, Int.reduceBNe, Nat.reduceEqDiff]
        · intro Q hQ
          cases b with
          | true =>
            refine goF (N := 72) Tryz.ntmps107 300 ?_
            simp only [go_sem, Nat.reduceAdd, Nat.reduceMul, Nat.reduceSub, Nat.reduceBEq, Nat.reduceLT, Nat.reduceLeDiff, reduceIte, reduceCtorEq, Int.reduceToNat, Int.reduceLE, Int.reduceLT, Int.reduceNe, Int.reduceMul, Int.reduceAdd, Int.reduceSub, Int.reduceDiv, Int.reduceMod, Int.reduceEq, Int.reduceGE, Int.reduceGT, Int.reduceNeg, Int.reduceBEq, Int.reduceBNe, Nat.reduceEqDiff]
            refine mcall (pick_mc L (k' + 1) [2, 20] (by decide) (by decide) (by omega) (by omega)) rfl rfl (id := 0) rfl (N := 72) Tryz.ntmps107 rfl ?_
            rintro _ _ ⟨⟨x, hx, rfl⟩, rfl⟩
            have px : 1 ≤ x ∧ x ≤ 80 := (show ∀ x ∈ [(2 : Int), 20], 1 ≤ x ∧ x ≤ 80 by decide) x hx
            refine goF (N := 72) Tryz.ntmps107 300 ?_
            simp only [go_sem, Nat.reduceAdd, Nat.reduceMul, Nat.reduceSub, Nat.reduceBEq, Nat.reduceLT, Nat.reduceLeDiff, reduceIte, reduceCtorEq, Int.reduceToNat, Int.reduceLE, Int.reduceLT, Int.reduceNe, Int.reduceMul, Int.reduceAdd, Int.reduceSub, Int.reduceDiv, Int.reduceMod, Int.reduceEq, Int.reduceGE, Int.reduceGT, Int.reduceNeg, Int.reduceBEq, Int.reduceBNe, Nat.reduceEqDiff]
            refine mcall (words_mc L (k' + 1 + 1) x 200 px.1 px.2 (by omega) (by omega) (by omega) (by omega)) rfl rfl (id := 0) rfl (N := 72) Tryz.ntmps107 rfl ?_
            rintro _ _ ⟨t, k3, rfl, t1, t2, rfl, t3, t4⟩
            refine goF (N := 72) Tryz.ntmps107 300 ?_
            simp only [go_sem, Nat.reduceAdd, Nat.reduceMul, Nat.reduceSub, Nat.reduceBEq, Nat.reduceLT, Nat.reduceLeDiff, reduceIte, reduceCtorEq, Int.reduceToNat, Int.reduceLE, Int.reduceLT, Int.reduceNe, Int.reduceMul, Int.reduceAdd, Int.reduceSub, Int.reduceDiv, Int.reduceMod, Int.reduceEq, Int.reduceGE, Int.reduceGT, Int.reduceNeg, Int.reduceBEq, Int.reduceBNe, Nat.reduceEqDiff]
            have e3 : ∀ q u, List.map paA out ++ [AV.agg [.int .i64 q, .str u]] = List.map paA (out ++ [⟨q, u⟩]) := fun q u => by simp [paA]
            have e4 : ∀ q u, out.length + 1 = (out ++ [(⟨q, u⟩ : Pa)]).length := fun q u => by simp
            have dq : DrawnP ⟨3, t⟩ := drawn_aside t1 (by omega)
            have fol : followsL 3 e = true := by rcases g5 with rfl | rfl <;> rfl
            refine ⟨by simp, .inl trivial, by simp; omega, by simp; omega, ?_⟩
            rw [e3, e4 3 t]
            refine ainv (hQ (k3, 3, out ++ [⟨3, t⟩]) ⟨by simp only; omega, by simp only; omega, .inr (.inl rfl), fun l l2 l3 => runL_one (g7 l l2 l3) dq.ok fol, fun p hp => ?_, by simp, by simp; omega⟩) (Shift.weak ?_)
            · rcases List.mem_append.1 hp with hp | hp
              · exact g8 p hp
              · rw [List.mem_singleton.1 hp]; exact dq
            · simp only [wk, go_sem, Nat.reduceAdd, Nat.reduceMul, Nat.reduceSub, Nat.reduceBEq, Nat.reduceLT, Nat.reduceLeDiff, reduceIte, reduceCtorEq, Int.reduceToNat, Int.reduceLE, Int.reduceLT, Int.reduceNe, Int.reduceMul, Int.reduceAdd, Int.reduceSub, Int.reduceDiv, Int.reduceMod, Int.reduceEq, Int.reduceGE, Int.reduceGT, Int.reduceNeg, Int.reduceBEq, Int.reduceBNe, Nat.reduceEqDiff]
          | false =>
            refine goF (N := 72) Tryz.ntmps107 300 ?_
            simp only [go_sem, Nat.reduceAdd, Nat.reduceMul, Nat.reduceSub, Nat.reduceBEq, Nat.reduceLT, Nat.reduceLeDiff, reduceIte, reduceCtorEq, Int.reduceToNat, Int.reduceLE, Int.reduceLT, Int.reduceNe, Int.reduceMul, Int.reduceAdd, Int.reduceSub, Int.reduceDiv, Int.reduceMod, Int.reduceEq, Int.reduceGE, Int.reduceGT, Int.reduceNeg, Int.reduceBEq, Int.reduceBNe, Nat.reduceEqDiff]
            refine ainv (hQ (k' + 1, e, out) ⟨by simp only; omega, by simp only; omega, by simp only; omega, g7, g8, g9, by simp only; omega⟩) (Shift.weak ?_)
            simp only [wk, go_sem, Nat.reduceAdd, Nat.reduceMul, Nat.reduceSub, Nat.reduceBEq, Nat.reduceLT, Nat.reduceLeDiff, reduceIte, reduceCtorEq, Int.reduceToNat, Int.reduceLE, Int.reduceLT, Int.reduceNe, Int.reduceMul, Int.reduceAdd, Int.reduceSub, Int.reduceDiv, Int.reduceMod, Int.reduceEq, Int.reduceGE, Int.reduceGT, Int.reduceNeg, Int.reduceBEq, Int.reduceBNe, Nat.reduceEqDiff]
      · have di : decide (i < n) = false := by simp; omega
        simp only [go_sem, Nat.reduceAdd, Nat.reduceMul, Nat.reduceSub, Nat.reduceBEq, Nat.reduceLT, Nat.reduceLeDiff, reduceIte, reduceCtorEq, Int.reduceToNat, Int.reduceLE, Int.reduceLT, Int.reduceNe, Int.reduceMul, Int.reduceAdd, Int.reduceSub, Int.reduceDiv, Int.reduceMod, Int.reduceEq, Int.reduceGE, Int.reduceGT, Int.reduceNeg, Int.reduceBEq, Int.reduceBNe, Nat.reduceEqDiff, di]
        have i0 : i = n := by omega
        have e4 := g6 (by omega)
        refine ARet.shift (Shift.freeze 2 (id := 1) rfl rfl (by simp) (Nat.le_refl _) (frozen_paras out)) (aret [2] rfl ⟨_, _, rfl, ⟨out, k', ?_, ⟨fun l l2 l3 => ⟨e, g7 l l2 l3, by omega, by omega⟩, ⟨g9, by omega⟩, g8⟩, rfl, by omega, by omega⟩, rfl, rfl⟩)
        simp [resV, Av.get, Av.put, List.take_of_length_le]
end Go.Proofs.YtpjbbpilgfihbaaGreatDoor
/- Draws: a scene. Own work of this seat. -/
set_option maxRecDepth 100000
set_option linter.unusedSimpArgs false
set_option linter.unusedVariables false
namespace Go.Proofs.YtpjbbpilgfihbaaGreatDoor
open Go Go.Av Go.RowKit
attribute [local go_sem ↓] br_true br_false dbr_true dbr_false dbri_true dbri_false dbrg_true dbrg_false
attribute [local go_sem] run cont br dbr dx dxc dgrd dyld dres dcall calm fieldPlace? allHas step1 opN grdN resN condN exitN stopN exitIt dOk xop xbin xint xarith xstr xbool xpick xnot xneg xextract xpart xpartOk xindex xfieldF fieldD xnew xbox xalloc xfieldAddr xptrAddIf xindexAddr xloadC xload putCells reElem xstoreB xstore xconv xtext xlen xlen2 xcall xfill xbuild cut rep xbuildSlice xbuildSliceD isRow elemD isU8 ev evs evp Go.Av.put Go.Av.get ofConst yldD yldV notBool_undef args0 cellsOf cond_true cond_false decide_true decide_false decide_eq_true_eq decide_eq_false_iff_not List.getElem?_cons_zero List.getElem?_cons_succ List.getElem?_nil List.getD_cons_zero List.getD_cons_succ List.getD_nil List.set_cons_zero List.set_cons_succ List.length_cons List.length_nil List.cons_append List.nil_append List.append_nil List.all_cons List.all_nil List.map_cons List.map_nil List.take_succ_cons List.take_zero List.drop_succ_cons List.drop_zero Bool.and_true Bool.true_and Bool.and_self Bool.and_false Bool.false_and one Go.Av.frozen beq_self_eq_true true_and and_true forall_const false_implies implies_true and_self Option.map_some Option.map_none Nat.zero_add Nat.add_zero Nat.zero_mul Nat.mul_one Nat.one_mul Int.toNat_zero ne_eq not_false_eq_true not_true_eq_false Bool.true_eq_false Bool.false_eq_true List.toList_toArray inr Go.Av.byteOf isByte decide_eq_decide Bool.not_true Bool.not_false Bool.not_eq_true' Bool.or_true Bool.true_or Bool.or_false Bool.false_or ge_iff_le gt_iff_lt and_assoc Bool.decide_eq_true beq_iff_eq beq_eq_false_iff_ne bne_iff_ne bne_self_eq_false if_true if_false Bool.and_eq_true Bool.or_eq_true Bool.and_eq_false_imp Bool.or_eq_false_iff Bool.not_eq_false' has Option.isSome_some Option.isSome_none Int.toNat_natCast Int.cast_ofNat_Int List.length_append xapp2 xapp xappS xappD xappB notInt srcOf srcB byteAV splice' xcut xcutS xcutF xcutB xcutN xcut0 cutL loOf hiOf evo xmake zelem xmax xcopy2 xcopyS xcopyB xnil xcut3 ixOf xclear2 xclearB List.getElem?_toArray xbin2 xnileq xempty xmkmap xmput xmputB xmputF isKey keyEq mfind xbin3 xeqs xeqop eqFs bothB leafEq xlook xlookB xlookF xbytes beq_c_n beq_n_c bne_c_n bne_n_c one_nil dxi dxic dbri rix dck reader blind opOk refOk Go.Op.operands Go.Call.operands List.contains_cons List.contains_nil dxg dxgc dbrg pck putD List.lookup_cons List.lookup_nil ts2 tb2 zl2 za2 Tryz.underlying2 ts3 tb3 zl3 za3 Tryz.underlying3 ts4 tb4 zl4 za4 Tryz.underlying4 ts5 tb5 zl5 za5 Tryz.underlying5 ts6 tb6 zl6 za6 Tryz.underlying6 ts7 tb7 za7 Tryz.underlying7 ts8 tb8 za8 Tryz.underlying8 ts9 tb9 zl9 za9 Tryz.underlying9 ts10 tb10 zl10 za10 Tryz.underlying10 ts11 tb11 zl11 za11 Tryz.underlying11 ts12 tb12 zl12 za12 Tryz.underlying12 ts13 tb13 za13 Tryz.underlying13 ts14 tb14 za14 Tryz.underlying14 ts18 tb18 za18 Tryz.underlying18 ts19 tb19 za19 Tryz.underlying19 ts21 tb21 zl21 za21 Tryz.underlying21 ts22 tb22 zl22 za22 Tryz.underlying22 ts24 tb24 za24 Tryz.underlying24 ts25 tb25 za25 Tryz.underlying25 ts27 tb27 zl27 za27 Tryz.underlying27 ts35 tb35 zl35 za35 Tryz.underlying35 ts36 tb36 za36 Tryz.underlying36 ts37 tb37 za37 Tryz.underlying37 ts39 tb39 zl39 za39 Tryz.underlying39 ts41 tb41 za41 Tryz.underlying41 ts42 tb42 za42 Tryz.underlying42 ts63 tb63 zl63 za63 Tryz.underlying63 ts64 tb64 zl64 za64 Tryz.underlying64 ts65 tb65 za65 Tryz.underlying65 ts66 tb66 za66 Tryz.underlying66 ts67 tb67 zl67 za67 Tryz.underlying67 ts69 tb69 za69 Tryz.underlying69 ts70 tb70 za70 Tryz.underlying70 ts73 tb73 za73 Tryz.underlying73 ts74 tb74 za74 Tryz.underlying74 ts75 tb75 zl75 za75 Tryz.underlying75 ts82 tb82 zl82 za82 Tryz.underlying82 ts96 tb96 za96 Tryz.underlying96 ts97 tb97 za97 Tryz.underlying97 ts103 tb103 za103 Tryz.underlying103 ts104 tb104 za104 Tryz.underlying104 ts109 tb109 zl109 za109 Tryz.underlying109 ts116 tb116 zl116 za116 Tryz.underlying116 ts117 tb117 za117 Tryz.underlying117 ts118 tb118 za118 Tryz.underlying118 ts120 tb120 zl120 za120 Tryz.underlying120 ts124 tb124 zl124 za124 Tryz.underlying124 ts126 tb126 za126 Tryz.underlying126 ts128 tb128 zl128 za128 Tryz.underlying128 ts130 tb130 za130 Tryz.underlying130 ts131 tb131 za131 Tryz.underlying131 ts153 tb153 zl153 za153 Tryz.underlying153 ts167 tb167 zl167 za167 Tryz.underlying167 ts171 tb171 zl171 za171 Tryz.underlying171 ts177 tb177 zl177 za177 Tryz.underlying177 ts183 tb183 zl183 za183 Tryz.underlying183 ts189 tb189 zl189 za189 Tryz.underlying189 ts191 tb191 zl191 za191 Tryz.underlying191 ts195 tb195 za195 Tryz.underlying195 ts196 tb196 za196 Tryz.underlying196 ts198 tb198 zl198 za198 Tryz.underlying198 ts203 tb203 Tryz.underlying203 ts209 tb209 za209 Tryz.underlying209 ts210 tb210 za210 Tryz.underlying210 ts211 tb211 Tryz.underlying211 ts216 tb216 za216 Tryz.underlying216 ts217 tb217 za217 Tryz.underlying217 ts220 tb220 Tryz.underlying220 ts225 tb225 Tryz.underlying225 ts226 tb226 Tryz.underlying226 ts227 tb227 za227 Tryz.underlying227 ts228 tb228 za228 Tryz.underlying228 ts232 tb232 zl232 za232 Tryz.underlying232 ts233 tb233 zl233 za233 Tryz.underlying233 ts235 tb235 zl235 za235 Tryz.underlying235 ts236 tb236 zl236 za236 Tryz.underlying236 ts237 tb237 za237 Tryz.underlying237 ts238 tb238 za238 Tryz.underlying238

theorem frz_str (id e : Nat) (l : List AV) (L : List Int) (k : Int) : frz id e l (str L k) = str L k := rfl

/-- a scene that is drawn -/
structure DrawnS (x : Sc) : Prop where
  no : x.no = []
  place : 1 ≤ x.place ∧ x.place ≤ 3
  set : x.set ∈ SetL
  time : 1 ≤ x.time ∧ x.time ≤ 5
  run : ∃ e, runL 0 x.paras = some e ∧ e ≠ 2 ∧ e ≠ 3
  len : x.paras.length ≤ 60
  all : ∀ p ∈ x.paras, DrawnP p

set_option maxHeartbeats 2000000 in
theorem scene_mc (L : List Int) (k : Int) (h3 : 0 ≤ k) (h4 : k ≤ 700000) :
    Mc Tryz.prog 68 2 (str L k) [] (fun r s => ∃ (x : Sc) (k' : Int), r = scA x ∧ DrawnS x ∧ s = str L k' ∧ k ≤ k' ∧ k' ≤ k + 5000) := by
  refine ct_intro Tryz.func68 rfl Tryz.ntmps68 hB68 (by simp) fun h ρ w => goF (N := 27) Tryz.ntmps68 300 ?_
  simp only [go_sem, Nat.reduceAdd, Nat.reduceMul, Nat.reduceSub, Nat.reduceBEq, Nat.reduceLT, Nat.reduceLeDiff, reduceIte, reduceCtorEq, Int.reduceToNat, Int.reduceLE, Int.reduceLT, Int.reduceNe, Int.reduceMul, Int.reduceAdd, Int.reduceSub, Int.reduceDiv, Int.reduceMod, Int.reduceEq, Int.reduceGE, Int.reduceGT, Int.reduceNeg, Int.reduceBEq, Int.reduceBNe, Nat.reduceEqDiff]
  refine mcall (range_mc L k 1 3 (by omega) (by omega) (by omega) (by omega) (by omega)) rfl rfl (id := 0) rfl (N := 27) Tryz.ntmps68 rfl ?_
  rintro _ _ ⟨⟨pl, rfl, hp1, hp2⟩, rfl⟩
  refine goF (N := 27) Tryz.ntmps68 300 ?_
  simp only [go_sem, Nat.reduceAdd, Nat.reduceMul, Nat.reduceSub, Nat.reduceBEq, Nat.reduceLT, Nat.reduceLeDiff, reduceIte, reduceCtorEq, Int.reduceToNat, Int.reduceLE, Int.reduceLT, Int.reduceNe, Int.reduceMul, Int.reduceAdd, Int.reduceSub, Int.reduceDiv, Int.reduceMod, Int.reduceEq, Int.reduceGE, Int.reduceGT, Int.reduceNeg, Int.reduceBEq, Int.reduceBNe, Nat.reduceEqDiff]
  refine pcall1 (sets_pc) rfl (N := 27) Tryz.ntmps68 rfl (go (N := 27) Tryz.ntmps68 300 ?_)
  simp only [go_sem, Nat.reduceAdd, Nat.reduceMul, Nat.reduceSub, Nat.reduceBEq, Nat.reduceLT, Nat.reduceLeDiff, reduceIte, reduceCtorEq, Int.reduceToNat, Int.reduceLE, Int.reduceLT, Int.reduceNe, Int.reduceMul, Int.reduceAdd, Int.reduceSub, Int.reduceDiv, Int.reduceMod, Int.reduceEq, Int.reduceGE, Int.reduceGT, Int.reduceNeg, Int.reduceBEq, Int.reduceBNe, Nat.reduceEqDiff]
  refine mcall (one_mc L (k + 1) SetL (by decide) (by decide) (by omega) (by omega)) rfl rfl (id := 0) rfl (N := 27) Tryz.ntmps68 rfl ?_
  rintro _ _ ⟨⟨st, hst, rfl⟩, rfl⟩
  refine goF (N := 27) Tryz.ntmps68 300 ?_
  simp only [go_sem, Nat.reduceAdd, Nat.reduceMul, Nat.reduceSub, Nat.reduceBEq, Nat.reduceLT, Nat.reduceLeDiff, reduceIte, reduceCtorEq, Int.reduceToNat, Int.reduceLE, Int.reduceLT, Int.reduceNe, Int.reduceMul, Int.reduceAdd, Int.reduceSub, Int.reduceDiv, Int.reduceMod, Int.reduceEq, Int.reduceGE, Int.reduceGT, Int.reduceNeg, Int.reduceBEq, Int.reduceBNe, Nat.reduceEqDiff]
  refine mcall (range_mc L (k + 1 + 1) 1 5 (by omega) (by omega) (by omega) (by omega) (by omega)) rfl rfl (id := 0) rfl (N := 27) Tryz.ntmps68 rfl ?_
  rintro _ _ ⟨⟨tm, rfl, ht1, ht2⟩, rfl⟩
  refine goF (N := 27) Tryz.ntmps68 300 ?_
  simp only [go_sem, Nat.reduceAdd, Nat.reduceMul, Nat.reduceSub, Nat.reduceBEq, Nat.reduceLT, Nat.reduceLeDiff, reduceIte, reduceCtorEq, Int.reduceToNat, Int.reduceLE, Int.reduceLT, Int.reduceNe, Int.reduceMul, Int.reduceAdd, Int.reduceSub, Int.reduceDiv, Int.reduceMod, Int.reduceEq, Int.reduceGE, Int.reduceGT, Int.reduceNeg, Int.reduceBEq, Int.reduceBNe, Nat.reduceEqDiff]
  refine mcall (pick_mc L (k + 1 + 1 + 1) [2, 5, 12] (by decide) (by decide) (by omega) (by omega)) rfl rfl (id := 0) rfl (N := 27) Tryz.ntmps68 rfl ?_
  rintro _ _ ⟨⟨n, hn, rfl⟩, rfl⟩
  have pn : 1 ≤ n ∧ n ≤ 12 := (show ∀ x ∈ [(2 : Int), 5, 12], 1 ≤ x ∧ x ≤ 12 by decide) n hn
  refine goF (N := 27) Tryz.ntmps68 300 ?_
  simp only [go_sem, Nat.reduceAdd, Nat.reduceMul, Nat.reduceSub, Nat.reduceBEq, Nat.reduceLT, Nat.reduceLeDiff, reduceIte, reduceCtorEq, Int.reduceToNat, Int.reduceLE, Int.reduceLT, Int.reduceNe, Int.reduceMul, Int.reduceAdd, Int.reduceSub, Int.reduceDiv, Int.reduceMod, Int.reduceEq, Int.reduceGE, Int.reduceGT, Int.reduceNeg, Int.reduceBEq, Int.reduceBNe, Nat.reduceEqDiff]
  refine mcall (next_mc L (k + 1 + 1 + 1 + 1) n (by omega) (by omega) (by omega) (by omega)) rfl rfl (id := 0) rfl (N := 27) Tryz.ntmps68 rfl ?_
  rintro _ _ ⟨⟨v, rfl, hv0, hv1⟩, rfl⟩
  refine goF (N := 27) Tryz.ntmps68 300 ?_
  simp only [go_sem, Nat.reduceAdd, Nat.reduceMul, Nat.reduceSub, Nat.reduceBEq, Nat.reduceLT, Nat.reduceLeDiff, reduceIte, reduceCtorEq, Int.reduceToNat, Int.reduceLE, Int.reduceLT, Int.reduceNe, Int.reduceMul, Int.reduceAdd, Int.reduceSub, Int.reduceDiv, Int.reduceMod, Int.reduceEq, Int.reduceGE, Int.reduceGT, Int.reduceNeg, Int.reduceBEq, Int.reduceBNe, Nat.reduceEqDiff]
  refine aloop (ι := Int × Int × List Pa) (fun x => (v - x.1).toNat)
    (fun x => [(17, .int .i64 x.1), (16, .int .i64 v), (3, .ptr 2 1 0 0), (2, .ptr 1 1 0 0), (0, .ptr 0 1 0 0)])
    (fun x => [.arr 2 [str L x.2.1], .arr 5 [.agg [.str [], .int .i64 0, .str [], .int .i64 0, .raw (.slice none 0 0)]], .arr 5 [.agg [.str [], .int .i64 pl, .str st, .int .i64 tm, .sl 3 0 x.2.2.length x.2.2.length]], .arr 2 (x.2.2.map paA)])
    (fun x => 0 ≤ x.1 ∧ x.1 ≤ v ∧ k ≤ x.2.1 ∧ x.2.1 ≤ k + 5 + 400 * x.1 ∧ (∃ e, runL 0 x.2.2 = some e ∧ e ≠ 2 ∧ e ≠ 3) ∧ (∀ p ∈ x.2.2, DrawnP p) ∧ (x.2.2.length : Int) ≤ 5 * x.1)
    (0, k + 1 + 1 + 1 + 1 + 1, []) ⟨Int.le_refl _, by simp only; omega, by simp only; omega, by simp only; omega, ⟨0, rfl, by decide, by decide⟩, by simp, by simp⟩ ?_ ?_
  · refine Shift.trans (Shift.cells 2 2 [.agg [.str [], .int .i64 pl, .str st, .int .i64 tm, .sl 3 0 0 0]] rfl rfl (by simp [cellsOf]) ⟨.refl, .refl, .refl, .refl, .sl, trivial⟩) (Shift.weak ?_)
    simp only [wk, go_sem, Nat.reduceAdd, Nat.reduceMul, Nat.reduceSub, Nat.reduceBEq, Nat.reduceLT, Nat.reduceLeDiff, reduceIte, reduceCtorEq, Int.reduceToNat, Int.reduceLE, Int.reduceLT, Int.reduceNe, Int.reduceMul, Int.reduceAdd, Int.reduceSub, Int.reduceDiv, Int.reduceMod, Int.reduceEq, Int.reduceGE, Int.reduceGT, Int.reduceNeg, Int.reduceBEq, Int.reduceBNe, Nat.reduceEqDiff]
  · rintro ⟨i, k', ps⟩ ⟨g1, g2, g3, g4, ⟨e, g5, g6, g7⟩, g8, g9⟩ J hJ
    simp only at g1 g2 g3 g4 g5 g6 g7 g8 g9 hJ ⊢
    by_cases gi : i < v
    · have di : decide (i < v) = true := by simp; omega
      refine go (N := 27) Tryz.ntmps68 300 ?_
      simp only [go_sem, Nat.reduceAdd, Nat.reduceMul, Nat.reduceSub, Nat.reduceBEq, Nat.reduceLT, Nat.reduceLeDiff, reduceIte, reduceCtorEq, Int.reduceToNat, Int.reduceLE, Int.reduceLT, Int.reduceNe, Int.reduceMul, Int.reduceAdd, Int.reduceSub, Int.reduceDiv, Int.reduceMod, Int.reduceEq, Int.reduceGE, Int.reduceGT, Int.reduceNeg, Int.reduceBEq, Int.reduceBNe, Nat.reduceEqDiff, di]
      refine adrawI [3] 0 [] mixed (by decide) (N := 27) Tryz.ntmps68 (by decide) 100 ?_
      simp only [go_sem, Nat.reduceAdd, Nat.reduceMul, Nat.reduceSub, Nat.reduceBEq, Nat.reduceLT, Nat.reduceLeDiff, reduceIte, reduceCtorEq, Int.reduceToNat, Int.reduceLE, Int.reduceLT, Int.reduceNe, Int.reduceMul, Int.reduceAdd, Int.reduceSub, Int.reduceDiv, Int.reduceMod, Int.reduceEq, Int.reduceGE, Int.reduceGT, Int.reduceNeg, Int.reduceBEq, Int.reduceBNe, Nat.reduceEqDiff]
      refine icall (paras_mc L k' (by omega) (by omega)) rfl rfl rfl ⟨_, _, [⟨5, [69, 78, 68]⟩], k', rfl, block_one (drawn_turn (by simp [TurnL])) (.inr rfl), rfl, by omega, by omega⟩ ?_
      rintro _ _ ⟨b, k2, rfl, hb, rfl, t1, t2⟩
      simp only [go_sem, Nat.reduceAdd, Nat.reduceMul, Nat.reduceSub, Nat.reduceBEq, Nat.reduceLT, Nat.reduceLeDiff, reduceIte, reduceCtorEq, Int.reduceToNat, Int.reduceLE, Int.reduceLT, Int.reduceNe, Int.reduceMul, Int.reduceAdd, Int.reduceSub, Int.reduceDiv, Int.reduceMod, Int.reduceEq, Int.reduceGE, Int.reduceGT, Int.reduceNeg, Int.reduceBEq, Int.reduceBNe, Nat.reduceEqDiff]
      refine ⟨by simp, .inl trivial, by simp; have := hb.len.2; omega, by simp; have := hb.len.2; omega, ?_⟩
      refine go (N := 27) Tryz.ntmps68 300 ?_
      simp only [go_sem, Nat.reduceAdd, Nat.reduceMul, Nat.reduceSub, Nat.reduceBEq, Nat.reduceLT, Nat.reduceLeDiff, reduceIte, reduceCtorEq, Int.reduceToNat, Int.reduceLE, Int.reduceLT, Int.reduceNe, Int.reduceMul, Int.reduceAdd, Int.reduceSub, Int.reduceDiv, Int.reduceMod, Int.reduceEq, Int.reduceGE, Int.reduceGT, Int.reduceNeg, Int.reduceBEq, Int.reduceBNe, Nat.reduceEqDiff]
      refine ⟨by omega, by omega, ?_⟩
      rw [← List.map_append, show ps.length + (List.map paA b).length = (ps ++ b).length by simp]
      obtain ⟨e', r1, r2, r3⟩ := hb.run e g6 g7
      have := hb.len
      refine ainv (hJ (i + 1, k2, ps ++ b) ⟨by simp only; omega, by simp only; omega, by simp only; omega, by simp only; omega, ⟨e', by rw [runL_append _ _ _ _ g5]; exact r1, r2, r3⟩, fun p hp => ?_, by simp; omega⟩ (by simp only; omega)) (Shift.weak ?_)
      · rcases List.mem_append.1 hp with hp | hp
        · exact g8 p hp
        · exact hb.all p hp
      · simp only [wk, go_sem, Nat.reduceAdd, Nat.reduceMul, Nat.reduceSub, Nat.reduceBEq, Nat.reduceLT, Nat.reduceLeDiff, reduceIte, reduceCtorEq, Int.reduceToNat, Int.reduceLE, Int.reduceLT, Int.reduceNe, Int.reduceMul, Int.reduceAdd, Int.reduceSub, Int.reduceDiv, Int.reduceMod, Int.reduceEq, Int.reduceGE, Int.reduceGT, Int.reduceNeg, Int.reduceBEq, Int.reduceBNe, Nat.reduceEqDiff, List.length_map]
    · have di : decide (i < v) = false := by simp; omega
      refine AWp.shift (Shift.frz 3 rfl (frozen_paras ps)) ?_
      simp only [↓frz_str, frzE, frz, frz1, frzB, List.map_cons, List.map_nil, List.set_cons_succ, List.set_cons_zero, Nat.reduceBEq, cond_true, cond_false, Bool.false_and, Bool.true_and, List.length_map, Nat.zero_add, decide_true, Nat.le_refl, List.drop_zero]
      have : List.take ps.length (List.map paA ps) = List.map paA ps := List.take_of_length_le (by simp)
      simp only [this]
      refine go (N := 27) Tryz.ntmps68 300 ?_
      simp only [go_sem, Nat.reduceAdd, Nat.reduceMul, Nat.reduceSub, Nat.reduceBEq, Nat.reduceLT, Nat.reduceLeDiff, reduceIte, reduceCtorEq, Int.reduceToNat, Int.reduceLE, Int.reduceLT, Int.reduceNe, Int.reduceMul, Int.reduceAdd, Int.reduceSub, Int.reduceDiv, Int.reduceMod, Int.reduceEq, Int.reduceGE, Int.reduceGT, Int.reduceNeg, Int.reduceBEq, Int.reduceBNe, Nat.reduceEqDiff, di]
      exact aretc [.cell 2 66] rfl [_] ⟨by simp only [go_sem, Nat.reduceAdd, Nat.reduceMul, Nat.reduceSub, Nat.reduceBEq, Nat.reduceLT, Nat.reduceLeDiff, reduceIte, reduceCtorEq, Int.reduceToNat, Int.reduceLE, Int.reduceLT, Int.reduceNe, Int.reduceMul, Int.reduceAdd, Int.reduceSub, Int.reduceDiv, Int.reduceMod, Int.reduceEq, Int.reduceGE, Int.reduceGT, Int.reduceNeg, Int.reduceBEq, Int.reduceBNe, Nat.reduceEqDiff, sideIs], trivial⟩ ⟨_, _, rfl, ⟨⟨[], pl, st, tm, ps⟩, k', rfl, ⟨rfl, ⟨hp1, hp2⟩, hst, ⟨ht1, ht2⟩, ⟨e, g5, g6, g7⟩, by simp only; omega, g8⟩, rfl, g3, by omega⟩, rfl, rfl⟩
end Go.Proofs.YtpjbbpilgfihbaaGreatDoor
/- Draws: a script without numbers. Own work of this seat. -/
set_option maxRecDepth 100000
set_option linter.unusedSimpArgs false
set_option linter.unusedVariables false
namespace Go.Proofs.YtpjbbpilgfihbaaGreatDoor
open Go Go.Av Go.RowKit
attribute [local go_sem ↓] br_true br_false dbr_true dbr_false dbri_true dbri_false dbrg_true dbrg_false
attribute [local go_sem] run cont br dbr dx dxc dgrd dyld dres dcall calm fieldPlace? allHas step1 opN grdN resN condN exitN stopN exitIt dOk xop xbin xint xarith xstr xbool xpick xnot xneg xextract xpart xpartOk xindex xfieldF fieldD xnew xbox xalloc xfieldAddr xptrAddIf xindexAddr xloadC xload putCells reElem xstoreB xstore xconv xtext xlen xlen2 xcall xfill xbuild cut rep xbuildSlice xbuildSliceD isRow elemD isU8 ev evs evp Go.Av.put Go.Av.get ofConst yldD yldV notBool_undef args0 cellsOf cond_true cond_false decide_true decide_false decide_eq_true_eq decide_eq_false_iff_not List.getElem?_cons_zero List.getElem?_cons_succ List.getElem?_nil List.getD_cons_zero List.getD_cons_succ List.getD_nil List.set_cons_zero List.set_cons_succ List.length_cons List.length_nil List.cons_append List.nil_append List.append_nil List.all_cons List.all_nil List.map_cons List.map_nil List.take_succ_cons List.take_zero List.drop_succ_cons List.drop_zero Bool.and_true Bool.true_and Bool.and_self Bool.and_false Bool.false_and one Go.Av.frozen beq_self_eq_true true_and and_true forall_const false_implies implies_true and_self Option.map_some Option.map_none Nat.zero_add Nat.add_zero Nat.zero_mul Nat.mul_one Nat.one_mul Int.toNat_zero ne_eq not_false_eq_true not_true_eq_false Bool.true_eq_false Bool.false_eq_true List.toList_toArray inr Go.Av.byteOf isByte decide_eq_decide Bool.not_true Bool.not_false Bool.not_eq_true' Bool.or_true Bool.true_or Bool.or_false Bool.false_or ge_iff_le gt_iff_lt and_assoc Bool.decide_eq_true beq_iff_eq beq_eq_false_iff_ne bne_iff_ne bne_self_eq_false if_true if_false Bool.and_eq_true Bool.or_eq_true Bool.and_eq_false_imp Bool.or_eq_false_iff Bool.not_eq_false' has Option.isSome_some Option.isSome_none Int.toNat_natCast Int.cast_ofNat_Int List.length_append xapp2 xapp xappS xappD xappB notInt srcOf srcB byteAV splice' xcut xcutS xcutF xcutB xcutN xcut0 cutL loOf hiOf evo xmake zelem xmax xcopy2 xcopyS xcopyB xnil xcut3 ixOf xclear2 xclearB List.getElem?_toArray xbin2 xnileq xempty xmkmap xmput xmputB xmputF isKey keyEq mfind xbin3 xeqs xeqop eqFs bothB leafEq xlook xlookB xlookF xbytes beq_c_n beq_n_c bne_c_n bne_n_c one_nil dxi dxic dbri rix dck reader blind opOk refOk Go.Op.operands Go.Call.operands List.contains_cons List.contains_nil dxg dxgc dbrg pck putD List.lookup_cons List.lookup_nil ts2 tb2 zl2 za2 Tryz.underlying2 ts3 tb3 zl3 za3 Tryz.underlying3 ts4 tb4 zl4 za4 Tryz.underlying4 ts5 tb5 zl5 za5 Tryz.underlying5 ts6 tb6 zl6 za6 Tryz.underlying6 ts7 tb7 za7 Tryz.underlying7 ts8 tb8 za8 Tryz.underlying8 ts9 tb9 zl9 za9 Tryz.underlying9 ts10 tb10 zl10 za10 Tryz.underlying10 ts11 tb11 zl11 za11 Tryz.underlying11 ts12 tb12 zl12 za12 Tryz.underlying12 ts13 tb13 za13 Tryz.underlying13 ts14 tb14 za14 Tryz.underlying14 ts18 tb18 za18 Tryz.underlying18 ts19 tb19 za19 Tryz.underlying19 ts21 tb21 zl21 za21 Tryz.underlying21 ts22 tb22 zl22 za22 Tryz.underlying22 ts24 tb24 za24 Tryz.underlying24 ts25 tb25 za25 Tryz.underlying25 ts27 tb27 zl27 za27 Tryz.underlying27 ts35 tb35 zl35 za35 Tryz.underlying35 ts36 tb36 za36 Tryz.underlying36 ts37 tb37 za37 Tryz.underlying37 ts39 tb39 zl39 za39 Tryz.underlying39 ts41 tb41 za41 Tryz.underlying41 ts42 tb42 za42 Tryz.underlying42 ts63 tb63 zl63 za63 Tryz.underlying63 ts64 tb64 zl64 za64 Tryz.underlying64 ts65 tb65 za65 Tryz.underlying65 ts66 tb66 za66 Tryz.underlying66 ts67 tb67 zl67 za67 Tryz.underlying67 ts69 tb69 za69 Tryz.underlying69 ts70 tb70 za70 Tryz.underlying70 ts73 tb73 za73 Tryz.underlying73 ts74 tb74 za74 Tryz.underlying74 ts75 tb75 zl75 za75 Tryz.underlying75 ts82 tb82 zl82 za82 Tryz.underlying82 ts96 tb96 za96 Tryz.underlying96 ts97 tb97 za97 Tryz.underlying97 ts103 tb103 za103 Tryz.underlying103 ts104 tb104 za104 Tryz.underlying104 ts109 tb109 zl109 za109 Tryz.underlying109 ts116 tb116 zl116 za116 Tryz.underlying116 ts117 tb117 za117 Tryz.underlying117 ts118 tb118 za118 Tryz.underlying118 ts120 tb120 zl120 za120 Tryz.underlying120 ts124 tb124 zl124 za124 Tryz.underlying124 ts126 tb126 za126 Tryz.underlying126 ts128 tb128 zl128 za128 Tryz.underlying128 ts130 tb130 za130 Tryz.underlying130 ts131 tb131 za131 Tryz.underlying131 ts153 tb153 zl153 za153 Tryz.underlying153 ts167 tb167 zl167 za167 Tryz.underlying167 ts171 tb171 zl171 za171 Tryz.underlying171 ts177 tb177 zl177 za177 Tryz.underlying177 ts183 tb183 zl183 za183 Tryz.underlying183 ts189 tb189 zl189 za189 Tryz.underlying189 ts191 tb191 zl191 za191 Tryz.underlying191 ts195 tb195 za195 Tryz.underlying195 ts196 tb196 za196 Tryz.underlying196 ts198 tb198 zl198 za198 Tryz.underlying198 ts203 tb203 Tryz.underlying203 ts209 tb209 za209 Tryz.underlying209 ts210 tb210 za210 Tryz.underlying210 ts211 tb211 Tryz.underlying211 ts216 tb216 za216 Tryz.underlying216 ts217 tb217 za217 Tryz.underlying217 ts220 tb220 Tryz.underlying220 ts225 tb225 Tryz.underlying225 ts226 tb226 Tryz.underlying226 ts227 tb227 za227 Tryz.underlying227 ts228 tb228 za228 Tryz.underlying228 ts232 tb232 zl232 za232 Tryz.underlying232 ts233 tb233 zl233 za233 Tryz.underlying233 ts235 tb235 zl235 za235 Tryz.underlying235 ts236 tb236 zl236 za236 Tryz.underlying236 ts237 tb237 za237 Tryz.underlying237 ts238 tb238 za238 Tryz.underlying238

def TitleL : List (List UInt8) := [[84], [84, 104, 101, 32, 77, 105, 108, 108], [65, 32, 45, 32, 66]]

/-- a script that is drawn, without numbers -/
structure DrawnR (x : Sr) : Prop where
  title : x.title ∈ TitleL
  len : x.scenes.length ≤ 5
  all : ∀ y ∈ x.scenes, DrawnS y
  first : ∀ y, x.scenes.head? = some y → y.time ≠ 5

theorem frozen_scenes (ps : List Sc) : (flat (ps.map scA)).all Av.frozen = true := by
  induction ps with
  | nil => rfl
  | cons y l ih => simpa [flat, cellsOf, scA, Av.frozen] using ih

set_option maxHeartbeats 2000000 in
theorem script_mc (L : List Int) (k : Int) (h3 : 0 ≤ k) (h4 : k ≤ 600000) :
    Mc Tryz.prog 30 2 (str L k) [] (fun r s => ∃ (x : Sr) (k' : Int), r = srA x ∧ DrawnR x ∧ s = str L k' ∧ k ≤ k' ∧ k' ≤ k + 30000) := by
  refine ct_intro Tryz.func30 rfl Tryz.ntmps30 hB30 (by simp) fun h ρ w => goF (N := 33) Tryz.ntmps30 300 ?_
  simp only [go_sem, Nat.reduceAdd, Nat.reduceMul, Nat.reduceSub, Nat.reduceBEq, Nat.reduceLT, Nat.reduceLeDiff, reduceIte, reduceCtorEq, Int.reduceToNat, Int.reduceLE, Int.reduceLT, Int.reduceNe, Int.reduceMul, Int.reduceAdd, Int.reduceSub, Int.reduceDiv, Int.reduceMod, Int.reduceEq, Int.reduceGE, Int.reduceGT, Int.reduceNeg, Int.reduceBEq, Int.reduceBNe, Nat.reduceEqDiff]
  refine mcall (one_mc L k TitleL (by decide) (by decide) (by omega) (by omega)) rfl rfl (id := 0) rfl (N := 33) Tryz.ntmps30 rfl ?_
  rintro _ _ ⟨⟨ti, hti, rfl⟩, rfl⟩
  refine goF (N := 33) Tryz.ntmps30 300 ?_
  simp only [go_sem, Nat.reduceAdd, Nat.reduceMul, Nat.reduceSub, Nat.reduceBEq, Nat.reduceLT, Nat.reduceLeDiff, reduceIte, reduceCtorEq, Int.reduceToNat, Int.reduceLE, Int.reduceLT, Int.reduceNe, Int.reduceMul, Int.reduceAdd, Int.reduceSub, Int.reduceDiv, Int.reduceMod, Int.reduceEq, Int.reduceGE, Int.reduceGT, Int.reduceNeg, Int.reduceBEq, Int.reduceBNe, Nat.reduceEqDiff]
  refine mcall (next_mc L (k + 1) 6 (by omega) (by omega) (by omega) (by omega)) rfl rfl (id := 0) rfl (N := 33) Tryz.ntmps30 rfl ?_
  rintro _ _ ⟨⟨v, rfl, hv0, hv1⟩, rfl⟩
  refine goF (N := 33) Tryz.ntmps30 300 ?_
  simp only [go_sem, Nat.reduceAdd, Nat.reduceMul, Nat.reduceSub, Nat.reduceBEq, Nat.reduceLT, Nat.reduceLeDiff, reduceIte, reduceCtorEq, Int.reduceToNat, Int.reduceLE, Int.reduceLT, Int.reduceNe, Int.reduceMul, Int.reduceAdd, Int.reduceSub, Int.reduceDiv, Int.reduceMod, Int.reduceEq, Int.reduceGE, Int.reduceGT, Int.reduceNeg, Int.reduceBEq, Int.reduceBNe, Nat.reduceEqDiff]
  refine aloop (ι := Int × Int × List Sc) (fun x => (v - x.1).toNat)
    (fun x => [(11, .int .i64 x.1), (10, .int .i64 v), (3, .ptr 2 1 0 0), (2, .ptr 1 1 0 0), (0, .ptr 0 1 0 0)])
    (fun x => [.arr 2 [str L x.2.1], .arr 2 [.agg [.str [], .raw (.slice none 0 0)]], .arr 2 [.agg [.str ti, .sl 3 0 x.2.2.length x.2.2.length]], .arr 5 (x.2.2.map scA)])
    (fun x => 0 ≤ x.1 ∧ x.1 ≤ v ∧ k ≤ x.2.1 ∧ x.2.1 ≤ k + 2 + 5000 * x.1 ∧ (x.2.2.length : Int) = x.1 ∧ (∀ y ∈ x.2.2, DrawnS y) ∧ (∀ y, x.2.2.head? = some y → y.time ≠ 5))
    (0, k + 1 + 1, []) ⟨Int.le_refl _, by simp only; omega, by simp only; omega, by simp only; omega, rfl, by simp, by simp⟩ ?_ ?_
  · refine Shift.trans (Shift.cells 2 5 [.agg [.str ti, .sl 3 0 0 0]] rfl rfl (by simp [cellsOf]) ⟨.refl, .sl, trivial⟩) (Shift.weak ?_)
    simp only [wk, go_sem, Nat.reduceAdd, Nat.reduceMul, Nat.reduceSub, Nat.reduceBEq, Nat.reduceLT, Nat.reduceLeDiff, reduceIte, reduceCtorEq, Int.reduceToNat, Int.reduceLE, Int.reduceLT, Int.reduceNe, Int.reduceMul, Int.reduceAdd, Int.reduceSub, Int.reduceDiv, Int.reduceMod, Int.reduceEq, Int.reduceGE, Int.reduceGT, Int.reduceNeg, Int.reduceBEq, Int.reduceBNe, Nat.reduceEqDiff]
  · rintro ⟨i, k', xs⟩ ⟨g1, g2, g3, g4, g5, g6, g7⟩ J hJ
    simp only at g1 g2 g3 g4 g5 g6 g7 hJ ⊢
    by_cases gi : i < v
    · have di : decide (i < v) = true := by simp; omega
      refine goF (N := 33) Tryz.ntmps30 300 ?_
      simp only [go_sem, Nat.reduceAdd, Nat.reduceMul, Nat.reduceSub, Nat.reduceBEq, Nat.reduceLT, Nat.reduceLeDiff, reduceIte, reduceCtorEq, Int.reduceToNat, Int.reduceLE, Int.reduceLT, Int.reduceNe, Int.reduceMul, Int.reduceAdd, Int.reduceSub, Int.reduceDiv, Int.reduceMod, Int.reduceEq, Int.reduceGE, Int.reduceGT, Int.reduceNeg, Int.reduceBEq, Int.reduceBNe, Nat.reduceEqDiff, di]
      refine mcall (scene_mc L k' (by omega) (by omega)) rfl rfl (id := 0) rfl (N := 33) Tryz.ntmps30 rfl ?_
      rintro _ _ ⟨x, k2, rfl, hx, rfl, t1, t2⟩
      have hlen : (List.map scA xs).length = xs.length := by simp
      have e2 : ∀ a b c d f, List.map scA xs ++ [AV.agg [.str a, .int .i64 b, .str c, .int .i64 d, .fz 2 (List.map paA f)]] = List.map scA (xs ++ [⟨a, b, c, d, f⟩]) := fun _ _ _ _ _ => by simp [scA]
      have e3 : ∀ y : Sc, xs.length + 1 = (xs ++ [y]).length := fun y => by simp
      have fin : ∀ y : Sc, DrawnS y → (xs = [] → y.time ≠ 5) → _ := fun y hy h5 => hJ (i + 1, k2, xs ++ [y]) ⟨by simp only; omega, by simp only; omega, by simp only; omega, by simp only; omega, by simp; omega, fun z hz => by
          rcases List.mem_append.1 hz with hz | hz
          · exact g6 z hz
          · rw [List.mem_singleton.1 hz]; exact hy, fun z hz => by
          cases xs with
          | nil => simp at hz; rw [← hz]; exact h5 rfl
          | cons a r => exact g7 z (by simpa using hz)⟩ (by simp only; omega)
      simp only [scA]
      refine goF (N := 33) Tryz.ntmps30 300 ?_
      by_cases h0 : xs = []
      · have q0 : ((xs.length : Int) == 0) = true := by simp [h0]
        by_cases h5 : x.time = 5
        · have q5 : (x.time == 5) = true := by simpa using h5
          simp only [go_sem, Nat.reduceAdd, Nat.reduceMul, Nat.reduceSub, Nat.reduceBEq, Nat.reduceLT, Nat.reduceLeDiff, reduceIte, reduceCtorEq, Int.reduceToNat, Int.reduceLE, Int.reduceLT, Int.reduceNe, Int.reduceMul, Int.reduceAdd, Int.reduceSub, Int.reduceDiv, Int.reduceMod, Int.reduceEq, Int.reduceGE, Int.reduceGT, Int.reduceNeg, Int.reduceBEq, Int.reduceBNe, Nat.reduceEqDiff, q0, q5]
          refine ⟨by simp, by first | omega | (simp; done) | (simp; omega), by first | omega | (simp; done) | (simp; omega), by first | omega | (simp; done) | (simp; omega), by first | omega | (simp; done) | (simp; omega), by omega, by omega, ?_⟩
          rw [e2, e3 ⟨x.no, x.place, x.set, 2, x.paras⟩]
          refine ainv (fin ⟨x.no, x.place, x.set, 2, x.paras⟩ ⟨hx.no, hx.place, hx.set, by simp, hx.run, hx.len, hx.all⟩ (fun _ => by simp)) (Shift.low 4 (by simp) (by simp) ?_ ?_)
          · have := frozen_scenes (xs ++ [⟨x.no, x.place, x.set, 2, x.paras⟩])
            simp only [List.take_succ_cons, List.take_zero, List.all_cons, List.all_nil, lowB, flat, cellsOf, lowC, str, Av.frozen, decide_true, List.append_nil, List.cons_append, List.nil_append, low_all this, Nat.reduceLT, Bool.and_self]
          · simp only [wkl, lowV, lowC, Av.get, go_sem, Nat.reduceAdd, Nat.reduceMul, Nat.reduceSub, Nat.reduceBEq, Nat.reduceLT, Nat.reduceLeDiff, reduceIte, reduceCtorEq, Int.reduceToNat, Int.reduceLE, Int.reduceLT, Int.reduceNe, Int.reduceMul, Int.reduceAdd, Int.reduceSub, Int.reduceDiv, Int.reduceMod, Int.reduceEq, Int.reduceGE, Int.reduceGT, Int.reduceNeg, Int.reduceBEq, Int.reduceBNe, Nat.reduceEqDiff]
        · have q5 : (x.time == 5) = false := by simpa using h5
          simp only [go_sem, Nat.reduceAdd, Nat.reduceMul, Nat.reduceSub, Nat.reduceBEq, Nat.reduceLT, Nat.reduceLeDiff, reduceIte, reduceCtorEq, Int.reduceToNat, Int.reduceLE, Int.reduceLT, Int.reduceNe, Int.reduceMul, Int.reduceAdd, Int.reduceSub, Int.reduceDiv, Int.reduceMod, Int.reduceEq, Int.reduceGE, Int.reduceGT, Int.reduceNeg, Int.reduceBEq, Int.reduceBNe, Nat.reduceEqDiff, q0, q5]
          refine ⟨by simp, by first | omega | (simp; done) | (simp; omega), by first | omega | (simp; done) | (simp; omega), by first | omega | (simp; done) | (simp; omega), by first | omega | (simp; done) | (simp; omega), by omega, by omega, ?_⟩
          rw [e2, e3 ⟨x.no, x.place, x.set, x.time, x.paras⟩]
          refine ainv (fin ⟨x.no, x.place, x.set, x.time, x.paras⟩ hx (fun _ => h5)) (Shift.low 4 (by simp) (by simp) ?_ ?_)
          · have := frozen_scenes (xs ++ [⟨x.no, x.place, x.set, x.time, x.paras⟩])
            simp only [List.take_succ_cons, List.take_zero, List.all_cons, List.all_nil, lowB, flat, cellsOf, lowC, str, Av.frozen, decide_true, List.append_nil, List.cons_append, List.nil_append, low_all this, Nat.reduceLT, Bool.and_self]
          · simp only [wkl, lowV, lowC, Av.get, go_sem, Nat.reduceAdd, Nat.reduceMul, Nat.reduceSub, Nat.reduceBEq, Nat.reduceLT, Nat.reduceLeDiff, reduceIte, reduceCtorEq, Int.reduceToNat, Int.reduceLE, Int.reduceLT, Int.reduceNe, Int.reduceMul, Int.reduceAdd, Int.reduceSub, Int.reduceDiv, Int.reduceMod, Int.reduceEq, Int.reduceGE, Int.reduceGT, Int.reduceNeg, Int.reduceBEq, Int.reduceBNe, Nat.reduceEqDiff]
      · have q0 : ((xs.length : Int) == 0) = false := by
          have : xs.length ≠ 0 := by simpa using h0
          simp; omega
        simp only [go_sem, Nat.reduceAdd, Nat.reduceMul, Nat.reduceSub, Nat.reduceBEq, Nat.reduceLT, Nat.reduceLeDiff, reduceIte, reduceCtorEq, Int.reduceToNat, Int.reduceLE, Int.reduceLT, Int.reduceNe, Int.reduceMul, Int.reduceAdd, Int.reduceSub, Int.reduceDiv, Int.reduceMod, Int.reduceEq, Int.reduceGE, Int.reduceGT, Int.reduceNeg, Int.reduceBEq, Int.reduceBNe, Nat.reduceEqDiff, q0]
        refine ⟨by simp, by first | omega | (simp; done) | (simp; omega), by first | omega | (simp; done) | (simp; omega), by first | omega | (simp; done) | (simp; omega), by first | omega | (simp; done) | (simp; omega), by omega, by omega, ?_⟩
        rw [e2, e3 ⟨x.no, x.place, x.set, x.time, x.paras⟩]
        refine ainv (fin ⟨x.no, x.place, x.set, x.time, x.paras⟩ hx (fun h => (h0 h).elim)) (Shift.low 4 (by simp) (by simp) ?_ ?_)
        · have := frozen_scenes (xs ++ [⟨x.no, x.place, x.set, x.time, x.paras⟩])
          simp only [List.take_succ_cons, List.take_zero, List.all_cons, List.all_nil, lowB, flat, cellsOf, lowC, str, Av.frozen, decide_true, List.append_nil, List.cons_append, List.nil_append, low_all this, Nat.reduceLT, Bool.and_self]
        · simp only [wkl, lowV, lowC, Av.get, go_sem, Nat.reduceAdd, Nat.reduceMul, Nat.reduceSub, Nat.reduceBEq, Nat.reduceLT, Nat.reduceLeDiff, reduceIte, reduceCtorEq, Int.reduceToNat, Int.reduceLE, Int.reduceLT, Int.reduceNe, Int.reduceMul, Int.reduceAdd, Int.reduceSub, Int.reduceDiv, Int.reduceMod, Int.reduceEq, Int.reduceGE, Int.reduceGT, Int.reduceNeg, Int.reduceBEq, Int.reduceBNe, Nat.reduceEqDiff]
    · have di : decide (i < v) = false := by simp; omega
      refine AWp.shift (Shift.frz 3 rfl (frozen_scenes xs)) ?_
      simp only [↓frz_str, frzE, frz, frz1, frzB, List.map_cons, List.map_nil, List.set_cons_succ, List.set_cons_zero, Nat.reduceBEq, cond_true, cond_false, Bool.false_and, Bool.true_and, List.length_map, Nat.zero_add, decide_true, Nat.le_refl, List.drop_zero]
      have : List.take xs.length (List.map scA xs) = List.map scA xs := List.take_of_length_le (by simp)
      simp only [this]
      refine go (N := 33) Tryz.ntmps30 300 ?_
      simp only [go_sem, Nat.reduceAdd, Nat.reduceMul, Nat.reduceSub, Nat.reduceBEq, Nat.reduceLT, Nat.reduceLeDiff, reduceIte, reduceCtorEq, Int.reduceToNat, Int.reduceLE, Int.reduceLT, Int.reduceNe, Int.reduceMul, Int.reduceAdd, Int.reduceSub, Int.reduceDiv, Int.reduceMod, Int.reduceEq, Int.reduceGE, Int.reduceGT, Int.reduceNeg, Int.reduceBEq, Int.reduceBNe, Nat.reduceEqDiff, di]
      exact aretc [.cell 2 37] rfl [_] ⟨by simp only [go_sem, Nat.reduceAdd, Nat.reduceMul, Nat.reduceSub, Nat.reduceBEq, Nat.reduceLT, Nat.reduceLeDiff, reduceIte, reduceCtorEq, Int.reduceToNat, Int.reduceLE, Int.reduceLT, Int.reduceNe, Int.reduceMul, Int.reduceAdd, Int.reduceSub, Int.reduceDiv, Int.reduceMod, Int.reduceEq, Int.reduceGE, Int.reduceGT, Int.reduceNeg, Int.reduceBEq, Int.reduceBNe, Nat.reduceEqDiff, sideIs], trivial⟩ ⟨_, _, rfl, ⟨⟨ti, xs⟩, k', rfl, ⟨hti, by simp only; omega, g6, g7⟩, rfl, g3, by omega⟩, rfl, rfl⟩
end Go.Proofs.YtpjbbpilgfihbaaGreatDoor
/- A call that makes one new block, in an open-order statement: the block is set aside before. Own work of this seat. -/
set_option linter.unusedSimpArgs false
set_option linter.unusedVariables false
namespace Go.Av
open Go Go.RowKit

variable {c : Cx} {e : Env} {s : List Blk}
/-- an empty block, set aside -/
theorem Shift.reserve (es : Nat) : Shift c e s e (s ++ [.arr es []]) := by
  rintro a w ⟨hh, ρ, hm, hlt, he, hdf, hsz, hX⟩
  obtain ⟨m', l'⟩ := hm.pushNil es
  exact ⟨hh, ρ, m', hlt.trans l', fun t => (he t).mono l'.hle l'.keep, hdf, hsz, c.hx.later hm l' hX⟩

theorem rl_frozen {h : Mem} {ρ ρ' : Own} {s s' : List Blk} {vs : List Value} {l : List AV} (hf : l.all frozen = true) (r : RL h (Lf ρ s) false vs l) : RL h (Lf ρ' s') false vs l :=
  (frz_all r hf).thaw (fun _ _ _ x => x)

theorem icall_new {f : FuncId} {args : List AV} {n es : Nat} {l : List AV} {K : AV → List Blk → Prop} (hc : Ct c.P f args [] (fun r s => r = .sl 0 0 n n ∧ s = [.arr es l])) (hn : 0 < n) (hlen : l.length = n) (ha : args.all frozen = true) (hf : (flat l).all frozen = true)
    {id : Nat} (hid : s[id]? = some (.arr es [])) (hk : K (.sl id 0 n n) (s.set id (.arr es l))) : ICall c f args id s K := by
  refine ⟨_, fun r b => r = .sl id 0 n n ∧ b = .arr es l, hid, ⟨hc.1, fun h ρ s w vs hs m lt0 r => ?_⟩, ⟨_, _, rfl, rfl⟩, fun r b ⟨h1, h2⟩ => by rw [h1, h2]; exact hk⟩
  have hidl := (List.getElem?_eq_some_iff.1 hs).1
  have hm0 : Mine h (fun _ => none) [] w := ⟨m.mem, fun id blk e => by simp at e, fun _ _ => rfl, fun i j g t t' e => by simp at e, fun i g t e => by simp at e⟩
  refine (hc.2 h (fun _ => none) w vs hm0 (rl_frozen ha r)).mono ?_
  rintro en w' ⟨v, r, s1, h', ρ1, rfl, ⟨rfl, rfl⟩, m', lt, rv⟩
  have hne : l ≠ [] := by intro h; rw [h] at hlen; simp at hlen; omega
  have hgood : ∀ i g t, ρ1 i = some (g, t) → w.heap.size ≤ g := fun i g t e => by
    rcases lt.newown i g t e with ⟨j, t', hj⟩ | h
    · cases hj
    · exact h
  have hblk : ∀ k, k < w.heap.size → w'.heap[k]? = w.heap[k]? := fun k hk => lt.block k hk (fun i t e => by cases e)
  have hnew : ∀ b o, h b o = none → h' b o ≠ none → w.heap.size ≤ b := fun b o e n => by
    rcases lt.hnew b o e n with ⟨j, t', hj⟩ | h
    · cases hj
    · exact h
  have hρ : ∀ i, i ≠ id → upd ρ id (ρ1 0) i = ρ i := fun i hi => by simp [upd, hi]
  have hρi : upd ρ id (ρ1 0) id = ρ1 0 := by simp [upd]
  have hkeep : ∀ v a, Lf ρ s v a → Lf (upd ρ id (ρ1 0)) (s.set id (.arr es l)) v a := fun v a x => ⟨x.1, LfC_set (b' := .arr es l) hs hρ (Or.inr (by
    rw [hlen]; exact hn)) x.2⟩
  have hown : ∀ i g t, upd ρ id (ρ1 0) i = some (g, t) → (i ≠ id ∧ ρ i = some (g, t) ∧ g < w.heap.size) ∨ (i = id ∧ ρ1 0 = some (g, t) ∧ w.heap.size ≤ g) := fun i g t e => by
    by_cases hi : i = id
    · rw [hi, hρi] at e
      exact .inr ⟨hi, e, hgood 0 g t e⟩
    · rw [hρ i hi] at e
      exact .inl ⟨hi, e, m.lt e⟩
  refine ⟨v, _, _, h', upd ρ id (ρ1 0), rfl, ⟨rfl, rfl⟩, ⟨m'.mem, ?_, ?_, ?_, ?_⟩, ⟨lt.hle, fun b o e n => .inr (hnew b o e n), hkeep, lt.os, lt.tape, lt.output, lt.size, fun k hk _ => hblk k hk, ?_⟩, ?_⟩
  · intro i blk e
    by_cases hi : i = id
    · subst hi
      simp [hidl] at e
      subst e
      rcases m'.own 0 (.arr es l) rfl with ⟨h1, h2⟩ | ⟨g, tot, cur, t, h1, h2, h3, h4, h5, h6, h7, h8, h9⟩
      · exact (hne h1).elim
      · exact .inr ⟨g, tot, cur, t, hρi.trans h1, h2, h3, h4, h5, h6, h7, h8, rl_frozen hf h9⟩
    · rw [List.getElem?_set_ne (Ne.symm hi)] at e
      exact (m.own i blk e).mono lt.hle hkeep (hρ i hi) (fun g t hg => hblk g (m.lt hg))
  · intro i hi
    simp at hi
    rw [hρ i (by omega)]
    exact m.out i hi
  · intro i j g t t' hi hj
    rcases hown i g t hi with ⟨a1, a2, a3⟩ | ⟨a1, a2, a3⟩ <;> rcases hown j g t' hj with ⟨b1, b2, b3⟩ | ⟨b1, b2, b3⟩
    · exact m.inj i j g t t' a2 b2
    · omega
    · omega
    · omega
  · intro i g t e o
    rcases hown i g t e with ⟨a1, a2, a3⟩ | ⟨a1, a2, a3⟩
    · cases hq : h' g o with
      | none => rfl
      | some z =>
        have := hnew g o (m.disj i g t a2 o) (by rw [hq]; simp)
        omega
    · exact m'.disj 0 g t a2 o
  · intro i g t e
    rcases hown i g t e with ⟨a1, a2, a3⟩ | ⟨a1, a2, a3⟩
    · exact .inl ⟨i, t, a2⟩
    · exact .inr a3
  · have q := inv_sl rv
    exact .leaf ⟨q.1, LfC_at (blk := .arr es l) rfl (by simp [hidl]) hρi q.2⟩
end Go.Av
/- Numbers of scenes: the next one, the one between two others. Own work of this seat. -/
set_option maxRecDepth 100000
set_option linter.unusedSimpArgs false
set_option linter.unusedVariables false
namespace Go.Proofs.YtpjbbpilgfihbaaGreatDoor
open Go Go.Av Go.RowKit
attribute [local go_sem ↓] br_true br_false dbr_true dbr_false dbri_true dbri_false dbrg_true dbrg_false
attribute [local go_sem] run cont br dbr dx dxc dgrd dyld dres dcall calm fieldPlace? allHas step1 opN grdN resN condN exitN stopN exitIt dOk xop xbin xint xarith xstr xbool xpick xnot xneg xextract xpart xpartOk xindex xfieldF fieldD xnew xbox xalloc xfieldAddr xptrAddIf xindexAddr xloadC xload putCells reElem xstoreB xstore xconv xtext xlen xlen2 xcall xfill xbuild cut rep xbuildSlice xbuildSliceD isRow elemD isU8 ev evs evp Go.Av.put Go.Av.get ofConst yldD yldV notBool_undef args0 cellsOf cond_true cond_false decide_true decide_false decide_eq_true_eq decide_eq_false_iff_not List.getElem?_cons_zero List.getElem?_cons_succ List.getElem?_nil List.getD_cons_zero List.getD_cons_succ List.getD_nil List.set_cons_zero List.set_cons_succ List.length_cons List.length_nil List.cons_append List.nil_append List.append_nil List.all_cons List.all_nil List.map_cons List.map_nil List.take_succ_cons List.take_zero List.drop_succ_cons List.drop_zero Bool.and_true Bool.true_and Bool.and_self Bool.and_false Bool.false_and one Go.Av.frozen beq_self_eq_true true_and and_true forall_const false_implies implies_true and_self Option.map_some Option.map_none Nat.zero_add Nat.add_zero Nat.zero_mul Nat.mul_one Nat.one_mul Int.toNat_zero ne_eq not_false_eq_true not_true_eq_false Bool.true_eq_false Bool.false_eq_true List.toList_toArray inr Go.Av.byteOf isByte decide_eq_decide Bool.not_true Bool.not_false Bool.not_eq_true' Bool.or_true Bool.true_or Bool.or_false Bool.false_or ge_iff_le gt_iff_lt and_assoc Bool.decide_eq_true beq_iff_eq beq_eq_false_iff_ne bne_iff_ne bne_self_eq_false if_true if_false Bool.and_eq_true Bool.or_eq_true Bool.and_eq_false_imp Bool.or_eq_false_iff Bool.not_eq_false' has Option.isSome_some Option.isSome_none Int.toNat_natCast Int.cast_ofNat_Int List.length_append xapp2 xapp xappS xappD xappB notInt srcOf srcB byteAV splice' xcut xcutS xcutF xcutB xcutN xcut0 cutL loOf hiOf evo xmake zelem xmax xcopy2 xcopyS xcopyB xnil xcut3 ixOf xclear2 xclearB List.getElem?_toArray xbin2 xnileq xempty xmkmap xmput xmputB xmputF isKey keyEq mfind xbin3 xeqs xeqop eqFs bothB leafEq xlook xlookB xlookF xbytes beq_c_n beq_n_c bne_c_n bne_n_c one_nil dxi dxic dbri rix dck reader blind opOk refOk Go.Op.operands Go.Call.operands List.contains_cons List.contains_nil dxg dxgc dbrg pck putD List.lookup_cons List.lookup_nil ts2 tb2 zl2 za2 Tryz.underlying2 ts3 tb3 zl3 za3 Tryz.underlying3 ts4 tb4 zl4 za4 Tryz.underlying4 ts5 tb5 zl5 za5 Tryz.underlying5 ts6 tb6 zl6 za6 Tryz.underlying6 ts7 tb7 za7 Tryz.underlying7 ts8 tb8 za8 Tryz.underlying8 ts9 tb9 zl9 za9 Tryz.underlying9 ts10 tb10 zl10 za10 Tryz.underlying10 ts11 tb11 zl11 za11 Tryz.underlying11 ts12 tb12 zl12 za12 Tryz.underlying12 ts13 tb13 za13 Tryz.underlying13 ts14 tb14 za14 Tryz.underlying14 ts18 tb18 za18 Tryz.underlying18 ts19 tb19 za19 Tryz.underlying19 ts21 tb21 zl21 za21 Tryz.underlying21 ts22 tb22 zl22 za22 Tryz.underlying22 ts24 tb24 za24 Tryz.underlying24 ts25 tb25 za25 Tryz.underlying25 ts27 tb27 zl27 za27 Tryz.underlying27 ts35 tb35 zl35 za35 Tryz.underlying35 ts36 tb36 za36 Tryz.underlying36 ts37 tb37 za37 Tryz.underlying37 ts39 tb39 zl39 za39 Tryz.underlying39 ts41 tb41 za41 Tryz.underlying41 ts42 tb42 za42 Tryz.underlying42 ts63 tb63 zl63 za63 Tryz.underlying63 ts64 tb64 zl64 za64 Tryz.underlying64 ts65 tb65 za65 Tryz.underlying65 ts66 tb66 za66 Tryz.underlying66 ts67 tb67 zl67 za67 Tryz.underlying67 ts69 tb69 za69 Tryz.underlying69 ts70 tb70 za70 Tryz.underlying70 ts73 tb73 za73 Tryz.underlying73 ts74 tb74 za74 Tryz.underlying74 ts75 tb75 zl75 za75 Tryz.underlying75 ts82 tb82 zl82 za82 Tryz.underlying82 ts96 tb96 za96 Tryz.underlying96 ts97 tb97 za97 Tryz.underlying97 ts103 tb103 za103 Tryz.underlying103 ts104 tb104 za104 Tryz.underlying104 ts109 tb109 zl109 za109 Tryz.underlying109 ts116 tb116 zl116 za116 Tryz.underlying116 ts117 tb117 za117 Tryz.underlying117 ts118 tb118 za118 Tryz.underlying118 ts120 tb120 zl120 za120 Tryz.underlying120 ts124 tb124 zl124 za124 Tryz.underlying124 ts126 tb126 za126 Tryz.underlying126 ts128 tb128 zl128 za128 Tryz.underlying128 ts130 tb130 za130 Tryz.underlying130 ts131 tb131 za131 Tryz.underlying131 ts153 tb153 zl153 za153 Tryz.underlying153 ts167 tb167 zl167 za167 Tryz.underlying167 ts171 tb171 zl171 za171 Tryz.underlying171 ts177 tb177 zl177 za177 Tryz.underlying177 ts183 tb183 zl183 za183 Tryz.underlying183 ts189 tb189 zl189 za189 Tryz.underlying189 ts191 tb191 zl191 za191 Tryz.underlying191 ts195 tb195 za195 Tryz.underlying195 ts196 tb196 za196 Tryz.underlying196 ts198 tb198 zl198 za198 Tryz.underlying198 ts203 tb203 Tryz.underlying203 ts209 tb209 za209 Tryz.underlying209 ts210 tb210 za210 Tryz.underlying210 ts211 tb211 Tryz.underlying211 ts216 tb216 za216 Tryz.underlying216 ts217 tb217 za217 Tryz.underlying217 ts220 tb220 Tryz.underlying220 ts225 tb225 Tryz.underlying225 ts226 tb226 Tryz.underlying226 ts227 tb227 za227 Tryz.underlying227 ts228 tb228 za228 Tryz.underlying228 ts232 tb232 zl232 za232 Tryz.underlying232 ts233 tb233 zl233 za233 Tryz.underlying233 ts235 tb235 zl235 za235 Tryz.underlying235 ts236 tb236 zl236 za236 Tryz.underlying236 ts237 tb237 za237 Tryz.underlying237 ts238 tb238 za238 Tryz.underlying238

theorem itoa_pch {S : Std} (hS : LibOk S) (n : Int) (h0 : -9223372036854775808 ≤ n) (h1 : n ≤ 9223372036854775807) : PcH Tryz.prog S 93 [.int .i64 n] (· = .str (Lib.itoa n)) :=
  pch_lib [_] (.string ⟨(Lib.itoa n).toArray⟩) hB93 (one_int .i64 n) (fun h => .str _) fun w H => by
    obtain ⟨t, z, hp⟩ := hS.pow10
    refine (Any.strconv_Itoa Tryz.laysM171 n h0 h1 w ?_).mono fun e w' ⟨e1, k, os, e2⟩ => ⟨e1, e2 ▸ same_below (Lib.below_grow _ _ (Nat.le_refl _) _ _)⟩
    show w.var? _ _ = _
    have hg : Tryz.prog.globalNamed "internal/strconv.uint64pow10" = some 5 := by kernel_rfl
    simp only [World.var?, hg, Option.bind_some, H _ _ hp]

/-- at most three digits -/
def dig3 (d : Int) : List UInt8 :=
  if d.toNat < 10 then [UInt8.ofNat (48 + d.toNat)] else if d.toNat < 100 then [UInt8.ofNat (48 + d.toNat / 10), UInt8.ofNat (48 + d.toNat % 10)]
  else [UInt8.ofNat (48 + d.toNat / 100), UInt8.ofNat (48 + d.toNat / 10 % 10), UInt8.ofNat (48 + d.toNat % 10)]
theorem itoa_dig3 {d : Int} (h0 : 0 ≤ d) (h1 : d ≤ 999) : Lib.itoa d = dig3 d := by
  unfold Lib.itoa dig3
  rw [if_neg (by omega)]
  generalize hu : d.toNat = u
  have hu1 : u ≤ 999 := by omega
  by_cases h10 : u < 10
  · rw [if_pos h10, Lib.decDigits_one h10]
  · rw [if_neg h10]
    by_cases h100 : u < 100
    · rw [if_pos h100, Lib.decDigits_two h10 h100]
    · rw [if_neg h100, Lib.decDigits, dif_neg h10, Lib.decDigits_two (by omega) (by omega)]
      simp [Nat.div_div_eq_div_mul]
end Go.Proofs.YtpjbbpilgfihbaaGreatDoor
/- Scripts with numbers from 1 on. Own work of this seat. -/
set_option maxRecDepth 100000
set_option linter.unusedSimpArgs false
set_option linter.unusedVariables false
namespace Go.Proofs.YtpjbbpilgfihbaaGreatDoor
open Go Go.Av Go.RowKit
attribute [local go_sem ↓] br_true br_false dbr_true dbr_false dbri_true dbri_false dbrg_true dbrg_false
attribute [local go_sem] run cont br dbr dx dxc dgrd dyld dres dcall calm fieldPlace? allHas step1 opN grdN resN condN exitN stopN exitIt dOk xop xbin xint xarith xstr xbool xpick xnot xneg xextract xpart xpartOk xindex xfieldF fieldD xnew xbox xalloc xfieldAddr xptrAddIf xindexAddr xloadC xload putCells reElem xstoreB xstore xconv xtext xlen xlen2 xcall xfill xbuild cut rep xbuildSlice xbuildSliceD isRow elemD isU8 ev evs evp Go.Av.put Go.Av.get ofConst yldD yldV notBool_undef args0 cellsOf cond_true cond_false decide_true decide_false decide_eq_true_eq decide_eq_false_iff_not List.getElem?_cons_zero List.getElem?_cons_succ List.getElem?_nil List.getD_cons_zero List.getD_cons_succ List.getD_nil List.set_cons_zero List.set_cons_succ List.length_cons List.length_nil List.cons_append List.nil_append List.append_nil List.all_cons List.all_nil List.map_cons List.map_nil List.take_succ_cons List.take_zero List.drop_succ_cons List.drop_zero Bool.and_true Bool.true_and Bool.and_self Bool.and_false Bool.false_and one Go.Av.frozen beq_self_eq_true true_and and_true forall_const false_implies implies_true and_self Option.map_some Option.map_none Nat.zero_add Nat.add_zero Nat.zero_mul Nat.mul_one Nat.one_mul Int.toNat_zero ne_eq not_false_eq_true not_true_eq_false Bool.true_eq_false Bool.false_eq_true List.toList_toArray inr Go.Av.byteOf isByte decide_eq_decide Bool.not_true Bool.not_false Bool.not_eq_true' Bool.or_true Bool.true_or Bool.or_false Bool.false_or ge_iff_le gt_iff_lt and_assoc Bool.decide_eq_true beq_iff_eq beq_eq_false_iff_ne bne_iff_ne bne_self_eq_false if_true if_false Bool.and_eq_true Bool.or_eq_true Bool.and_eq_false_imp Bool.or_eq_false_iff Bool.not_eq_false' has Option.isSome_some Option.isSome_none Int.toNat_natCast Int.cast_ofNat_Int List.length_append xapp2 xapp xappS xappD xappB notInt srcOf srcB byteAV splice' xcut xcutS xcutF xcutB xcutN xcut0 cutL loOf hiOf evo xmake zelem xmax xcopy2 xcopyS xcopyB xnil xcut3 ixOf xclear2 xclearB List.getElem?_toArray xbin2 xnileq xempty xmkmap xmput xmputB xmputF isKey keyEq mfind xbin3 xeqs xeqop eqFs bothB leafEq xlook xlookB xlookF xbytes beq_c_n beq_n_c bne_c_n bne_n_c one_nil dxi dxic dbri rix dck reader blind opOk refOk Go.Op.operands Go.Call.operands List.contains_cons List.contains_nil dxg dxgc dbrg pck putD List.lookup_cons List.lookup_nil ts2 tb2 zl2 za2 Tryz.underlying2 ts3 tb3 zl3 za3 Tryz.underlying3 ts4 tb4 zl4 za4 Tryz.underlying4 ts5 tb5 zl5 za5 Tryz.underlying5 ts6 tb6 zl6 za6 Tryz.underlying6 ts7 tb7 za7 Tryz.underlying7 ts8 tb8 za8 Tryz.underlying8 ts9 tb9 zl9 za9 Tryz.underlying9 ts10 tb10 zl10 za10 Tryz.underlying10 ts11 tb11 zl11 za11 Tryz.underlying11 ts12 tb12 zl12 za12 Tryz.underlying12 ts13 tb13 za13 Tryz.underlying13 ts14 tb14 za14 Tryz.underlying14 ts18 tb18 za18 Tryz.underlying18 ts19 tb19 za19 Tryz.underlying19 ts21 tb21 zl21 za21 Tryz.underlying21 ts22 tb22 zl22 za22 Tryz.underlying22 ts24 tb24 za24 Tryz.underlying24 ts25 tb25 za25 Tryz.underlying25 ts27 tb27 zl27 za27 Tryz.underlying27 ts35 tb35 zl35 za35 Tryz.underlying35 ts36 tb36 za36 Tryz.underlying36 ts37 tb37 za37 Tryz.underlying37 ts39 tb39 zl39 za39 Tryz.underlying39 ts41 tb41 za41 Tryz.underlying41 ts42 tb42 za42 Tryz.underlying42 ts63 tb63 zl63 za63 Tryz.underlying63 ts64 tb64 zl64 za64 Tryz.underlying64 ts65 tb65 za65 Tryz.underlying65 ts66 tb66 za66 Tryz.underlying66 ts67 tb67 zl67 za67 Tryz.underlying67 ts69 tb69 za69 Tryz.underlying69 ts70 tb70 za70 Tryz.underlying70 ts73 tb73 za73 Tryz.underlying73 ts74 tb74 za74 Tryz.underlying74 ts75 tb75 zl75 za75 Tryz.underlying75 ts82 tb82 zl82 za82 Tryz.underlying82 ts96 tb96 za96 Tryz.underlying96 ts97 tb97 za97 Tryz.underlying97 ts103 tb103 za103 Tryz.underlying103 ts104 tb104 za104 Tryz.underlying104 ts109 tb109 zl109 za109 Tryz.underlying109 ts116 tb116 zl116 za116 Tryz.underlying116 ts117 tb117 za117 Tryz.underlying117 ts118 tb118 za118 Tryz.underlying118 ts120 tb120 zl120 za120 Tryz.underlying120 ts124 tb124 zl124 za124 Tryz.underlying124 ts126 tb126 za126 Tryz.underlying126 ts128 tb128 zl128 za128 Tryz.underlying128 ts130 tb130 za130 Tryz.underlying130 ts131 tb131 za131 Tryz.underlying131 ts153 tb153 zl153 za153 Tryz.underlying153 ts167 tb167 zl167 za167 Tryz.underlying167 ts171 tb171 zl171 za171 Tryz.underlying171 ts177 tb177 zl177 za177 Tryz.underlying177 ts183 tb183 zl183 za183 Tryz.underlying183 ts189 tb189 zl189 za189 Tryz.underlying189 ts191 tb191 zl191 za191 Tryz.underlying191 ts195 tb195 za195 Tryz.underlying195 ts196 tb196 za196 Tryz.underlying196 ts198 tb198 zl198 za198 Tryz.underlying198 ts203 tb203 Tryz.underlying203 ts209 tb209 za209 Tryz.underlying209 ts210 tb210 za210 Tryz.underlying210 ts211 tb211 Tryz.underlying211 ts216 tb216 za216 Tryz.underlying216 ts217 tb217 za217 Tryz.underlying217 ts220 tb220 Tryz.underlying220 ts225 tb225 Tryz.underlying225 ts226 tb226 Tryz.underlying226 ts227 tb227 za227 Tryz.underlying227 ts228 tb228 za228 Tryz.underlying228 ts232 tb232 zl232 za232 Tryz.underlying232 ts233 tb233 zl233 za233 Tryz.underlying233 ts235 tb235 zl235 za235 Tryz.underlying235 ts236 tb236 zl236 za236 Tryz.underlying236 ts237 tb237 za237 Tryz.underlying237 ts238 tb238 za238 Tryz.underlying238

theorem clone0_pc : Pc Tryz.prog 51 [.fz 5 []] (· = .fz 5 []) := by
  refine pc_intro (ct_intro Tryz.func51 rfl Tryz.ntmps51 hB51 (by simp) fun h ρ w => go (N := 8) Tryz.ntmps51 300 ?_)
  simp only [go_sem, Nat.reduceAdd, Nat.reduceMul, Nat.reduceSub, Nat.reduceBEq, Nat.reduceLT, Nat.reduceLeDiff, reduceIte, reduceCtorEq, Int.reduceToNat, Int.reduceLE, Int.reduceLT, Int.reduceNe, Int.reduceMul, Int.reduceAdd, Int.reduceSub, Int.reduceDiv, Int.reduceMod, Int.reduceEq, Int.reduceGE, Int.reduceGT, Int.reduceNeg, Int.reduceBEq, Int.reduceBNe, Nat.reduceEqDiff]
  intro b
  refine go (N := 8) Tryz.ntmps51 300 ?_
  cases b with
  | true =>
    simp only [go_sem, Nat.reduceAdd, Nat.reduceMul, Nat.reduceSub, Nat.reduceBEq, Nat.reduceLT, Nat.reduceLeDiff, reduceIte, reduceCtorEq, Int.reduceToNat, Int.reduceLE, Int.reduceLT, Int.reduceNe, Int.reduceMul, Int.reduceAdd, Int.reduceSub, Int.reduceDiv, Int.reduceMod, Int.reduceEq, Int.reduceGE, Int.reduceGT, Int.reduceNeg, Int.reduceBEq, Int.reduceBNe, Nat.reduceEqDiff]
    exact ARet.shift (Shift.nilfz 2 5 rfl) (aret [2] rfl ⟨rfl, rfl⟩)
  | false =>
    simp only [go_sem, Nat.reduceAdd, Nat.reduceMul, Nat.reduceSub, Nat.reduceBEq, Nat.reduceLT, Nat.reduceLeDiff, reduceIte, reduceCtorEq, Int.reduceToNat, Int.reduceLE, Int.reduceLT, Int.reduceNe, Int.reduceMul, Int.reduceAdd, Int.reduceSub, Int.reduceDiv, Int.reduceMod, Int.reduceEq, Int.reduceGE, Int.reduceGT, Int.reduceNeg, Int.reduceBEq, Int.reduceBNe, Nat.reduceEqDiff]
    refine ⟨.inl trivial, ?_⟩
    exact ARet.shift (Shift.freeze 2 (id := 0) rfl rfl rfl (Nat.le_refl _) rfl) (aret [2] rfl ⟨rfl, rfl⟩)
theorem clone_ct (x : Sc) (xs : List Sc) (hl : xs.length ≤ 100000) :
    Ct Tryz.prog 51 [.fz 5 ((x :: xs).map scA)] [] (fun r s => r = .sl 0 0 (x :: xs).length (x :: xs).length ∧ s = [.arr 5 ((x :: xs).map scA)]) := by
  refine ct_intro Tryz.func51 rfl Tryz.ntmps51 hB51 (by simp) fun h ρ w => go (N := 8) Tryz.ntmps51 300 ?_
  simp only [go_sem, Nat.reduceAdd, Nat.reduceMul, Nat.reduceSub, Nat.reduceBEq, Nat.reduceLT, Nat.reduceLeDiff, reduceIte, reduceCtorEq, Int.reduceToNat, Int.reduceLE, Int.reduceLT, Int.reduceNe, Int.reduceMul, Int.reduceAdd, Int.reduceSub, Int.reduceDiv, Int.reduceMod, Int.reduceEq, Int.reduceGE, Int.reduceGT, Int.reduceNeg, Int.reduceBEq, Int.reduceBNe, Nat.reduceEqDiff, scA]
  refine ⟨by simp, by simp; omega, by simp; omega, aret [2] rfl ⟨by simp [resV, Av.get, scA], rfl⟩⟩

def nm (i : Nat) (x : Sc) : Sc := { x with no := Lib.itoa ((i : Int) + 1) }
def numL : Nat → List Sc → List Sc
  | _, [] => []
  | i, x :: r => nm i x :: numL (i + 1) r
def numR (x : Sr) : Sr := ⟨x.title, numL 0 x.scenes⟩

set_option maxHeartbeats 2000000 in
theorem numbered_pch {S : Std} (hS : LibOk S) (x : Sr) (hl : x.scenes.length ≤ 1000) : PcH Tryz.prog S 66 [srA x] (· = srA (numR x)) := by
  obtain ⟨ti, xs⟩ := x
  cases xs with
  | nil =>
    simp only [srA, List.map_nil, numR, numL]
    refine pch_intro (cth_intro Tryz.func66 rfl Tryz.ntmps66 hB66 (by simp) fun h ρ w hg => go (N := 27) Tryz.ntmps66 300 ?_)
    simp only [go_sem, Nat.reduceAdd, Nat.reduceMul, Nat.reduceSub, Nat.reduceBEq, Nat.reduceLT, Nat.reduceLeDiff, reduceIte, reduceCtorEq, Int.reduceToNat, Int.reduceLE, Int.reduceLT, Int.reduceNe, Int.reduceMul, Int.reduceAdd, Int.reduceSub, Int.reduceDiv, Int.reduceMod, Int.reduceEq, Int.reduceGE, Int.reduceGT, Int.reduceNeg, Int.reduceBEq, Int.reduceBNe, Nat.reduceEqDiff]
    refine adrawI [] 99 [.fz 5 []] mixed (by decide) (N := 27) Tryz.ntmps66 (by decide) 100 ?_
    simp only [go_sem, Nat.reduceAdd, Nat.reduceMul, Nat.reduceSub, Nat.reduceBEq, Nat.reduceLT, Nat.reduceLeDiff, reduceIte, reduceCtorEq, Int.reduceToNat, Int.reduceLE, Int.reduceLT, Int.reduceNe, Int.reduceMul, Int.reduceAdd, Int.reduceSub, Int.reduceDiv, Int.reduceMod, Int.reduceEq, Int.reduceGE, Int.reduceGT, Int.reduceNeg, Int.reduceBEq, Int.reduceBNe, Nat.reduceEqDiff]
    refine ⟨clone0_pc.at, rfl, ?_⟩
    refine go (N := 27) Tryz.ntmps66 300 ?_
    simp only [go_sem, Nat.reduceAdd, Nat.reduceMul, Nat.reduceSub, Nat.reduceBEq, Nat.reduceLT, Nat.reduceLeDiff, reduceIte, reduceCtorEq, Int.reduceToNat, Int.reduceLE, Int.reduceLT, Int.reduceNe, Int.reduceMul, Int.reduceAdd, Int.reduceSub, Int.reduceDiv, Int.reduceMod, Int.reduceEq, Int.reduceGE, Int.reduceGT, Int.reduceNeg, Int.reduceBEq, Int.reduceBNe, Nat.reduceEqDiff]
    refine aenter (around (go (N := 27) Tryz.ntmps66 300 ?_))
    simp only [go_sem, Nat.reduceAdd, Nat.reduceMul, Nat.reduceSub, Nat.reduceBEq, Nat.reduceLT, Nat.reduceLeDiff, reduceIte, reduceCtorEq, Int.reduceToNat, Int.reduceLE, Int.reduceLT, Int.reduceNe, Int.reduceMul, Int.reduceAdd, Int.reduceSub, Int.reduceDiv, Int.reduceMod, Int.reduceEq, Int.reduceGE, Int.reduceGT, Int.reduceNeg, Int.reduceBEq, Int.reduceBNe, Nat.reduceEqDiff]
    exact aretc [.cell 2 37] rfl [_] ⟨by simp only [go_sem, Nat.reduceAdd, Nat.reduceMul, Nat.reduceSub, Nat.reduceBEq, Nat.reduceLT, Nat.reduceLeDiff, reduceIte, reduceCtorEq, Int.reduceToNat, Int.reduceLE, Int.reduceLT, Int.reduceNe, Int.reduceMul, Int.reduceAdd, Int.reduceSub, Int.reduceDiv, Int.reduceMod, Int.reduceEq, Int.reduceGE, Int.reduceGT, Int.reduceNeg, Int.reduceBEq, Int.reduceBNe, Nat.reduceEqDiff, sideIs], trivial⟩ ⟨rfl, rfl⟩
  | cons x xs =>
    simp only [srA]
    refine pch_intro (cth_intro Tryz.func66 rfl Tryz.ntmps66 hB66 (by simp) fun h ρ w hg => go (N := 27) Tryz.ntmps66 300 ?_)
    simp only [go_sem, Nat.reduceAdd, Nat.reduceMul, Nat.reduceSub, Nat.reduceBEq, Nat.reduceLT, Nat.reduceLeDiff, reduceIte, reduceCtorEq, Int.reduceToNat, Int.reduceLE, Int.reduceLT, Int.reduceNe, Int.reduceMul, Int.reduceAdd, Int.reduceSub, Int.reduceDiv, Int.reduceMod, Int.reduceEq, Int.reduceGE, Int.reduceGT, Int.reduceNeg, Int.reduceBEq, Int.reduceBNe, Nat.reduceEqDiff]
    refine AWp.shift (Shift.reserve 5) ?_
    refine adrawI [4] 2 [] mixed (by decide) (N := 27) Tryz.ntmps66 (by decide) 100 ?_
    simp only [go_sem, Nat.reduceAdd, Nat.reduceMul, Nat.reduceSub, Nat.reduceBEq, Nat.reduceLT, Nat.reduceLeDiff, reduceIte, reduceCtorEq, Int.reduceToNat, Int.reduceLE, Int.reduceLT, Int.reduceNe, Int.reduceMul, Int.reduceAdd, Int.reduceSub, Int.reduceDiv, Int.reduceMod, Int.reduceEq, Int.reduceGE, Int.reduceGT, Int.reduceNeg, Int.reduceBEq, Int.reduceBNe, Nat.reduceEqDiff]
    have hfro : (flat ((x :: xs).map scA)).all Av.frozen = true := frozen_scenes (x :: xs)
    refine icall_new (clone_ct x xs (by simp at hl ⊢; omega)) (by simp) (by simp) rfl hfro rfl ?_
    simp only [go_sem, Nat.reduceAdd, Nat.reduceMul, Nat.reduceSub, Nat.reduceBEq, Nat.reduceLT, Nat.reduceLeDiff, reduceIte, reduceCtorEq, Int.reduceToNat, Int.reduceLE, Int.reduceLT, Int.reduceNe, Int.reduceMul, Int.reduceAdd, Int.reduceSub, Int.reduceDiv, Int.reduceMod, Int.reduceEq, Int.reduceGE, Int.reduceGT, Int.reduceNeg, Int.reduceBEq, Int.reduceBNe, Nat.reduceEqDiff]
    refine go (N := 27) Tryz.ntmps66 300 ?_
    simp only [go_sem, Nat.reduceAdd, Nat.reduceMul, Nat.reduceSub, Nat.reduceBEq, Nat.reduceLT, Nat.reduceLeDiff, reduceIte, reduceCtorEq, Int.reduceToNat, Int.reduceLE, Int.reduceLT, Int.reduceNe, Int.reduceMul, Int.reduceAdd, Int.reduceSub, Int.reduceDiv, Int.reduceMod, Int.reduceEq, Int.reduceGE, Int.reduceGT, Int.reduceNeg, Int.reduceBEq, Int.reduceBNe, Nat.reduceEqDiff]
    refine ⟨by simp, ?_⟩
    have hys : AV.fz 5 (List.map scA (numR ⟨ti, x :: xs⟩).scenes) = .fz 5 (List.map scA (numL 0 (x :: xs))) := rfl
    rw [hys]
    clear hys
    have hl' : xs.length + 1 ≤ 1000 := by simpa using hl
    have hnum : ∃ out, numL 0 (x :: xs) = out := ⟨_, rfl⟩
    obtain ⟨out, hout⟩ := hnum
    rw [hout]
    refine aloop (ι := List Sc × List Sc) (fun y => y.2.length)
      (fun y => [(14, .int .i64 y.1.length), (13, .int .i64 ↑(xs.length + 1)), (3, .ptr 3 1 0 0), (2, .ptr 1 1 0 0)])
      (fun y => [.arr 2 [.agg [.str ti, .fz 5 (scA x :: List.map scA xs)]], .arr 2 [.agg [.str [], .raw (.slice none 0 0)]], .arr 5 (List.map scA (y.1 ++ y.2)), .arr 2 [.agg [.str ti, .sl 2 0 (xs.length + 1) (xs.length + 1)]]])
      (fun y => y.1.length + y.2.length = xs.length + 1 ∧ y.1 ++ numL y.1.length y.2 = out) ([], x :: xs) ⟨by simp, hout⟩ ?_ ?_
    · refine Shift.weak ?_
      simp only [wk, go_sem, Nat.reduceAdd, Nat.reduceMul, Nat.reduceSub, Nat.reduceBEq, Nat.reduceLT, Nat.reduceLeDiff, reduceIte, reduceCtorEq, Int.reduceToNat, Int.reduceLE, Int.reduceLT, Int.reduceNe, Int.reduceMul, Int.reduceAdd, Int.reduceSub, Int.reduceDiv, Int.reduceMod, Int.reduceEq, Int.reduceGE, Int.reduceGT, Int.reduceNeg, Int.reduceBEq, Int.reduceBNe, Nat.reduceEqDiff]
    · rintro ⟨dn, rest⟩ ⟨g1, g2⟩ J hJ
      simp only at g1 g2 hJ ⊢
      cases rest with
      | cons y r =>
        have di : decide ((dn.length : Int) < ((xs.length + 1 : Nat) : Int)) = true := by simp at g1 ⊢; omega
        refine go (N := 27) Tryz.ntmps66 300 ?_
        simp only [go_sem, Nat.reduceAdd, Nat.reduceMul, Nat.reduceSub, Nat.reduceBEq, Nat.reduceLT, Nat.reduceLeDiff, reduceIte, reduceCtorEq, Int.reduceToNat, Int.reduceLE, Int.reduceLT, Int.reduceNe, Int.reduceMul, Int.reduceAdd, Int.reduceSub, Int.reduceDiv, Int.reduceMod, Int.reduceEq, Int.reduceGE, Int.reduceGT, Int.reduceNeg, Int.reduceBEq, Int.reduceBNe, Nat.reduceEqDiff, di]
        refine adraw [.str (Lib.itoa ((dn.length : Int) + 1))] mixed (by decide) (N := 27) Tryz.ntmps66 (by decide) 100 ?_
        have hx : List.getD (List.map scA (dn ++ y :: r)) dn.length .any = .agg [.str y.no, .int .i64 y.place, .str y.set, .int .i64 y.time, .fz 2 (y.paras.map paA)] := by simp [List.getD, scA]
        simp only [go_sem, Nat.reduceAdd, Nat.reduceMul, Nat.reduceSub, Nat.reduceBEq, Nat.reduceLT, Nat.reduceLeDiff, reduceIte, reduceCtorEq, Int.reduceToNat, Int.reduceLE, Int.reduceLT, Int.reduceNe, Int.reduceMul, Int.reduceAdd, Int.reduceSub, Int.reduceDiv, Int.reduceMod, Int.reduceEq, Int.reduceGE, Int.reduceGT, Int.reduceNeg, Int.reduceBEq, Int.reduceBNe, Nat.reduceEqDiff, hx]
        refine ⟨by omega, by omega, (itoa_pch hS _ (by omega) (by omega)).at hg, rfl, by simp at g1 ⊢; omega, by omega, by simp at g1 ⊢; omega, by omega, by simp, ?_⟩
        have hset : (List.map scA (dn ++ y :: r)).set dn.length (.agg [.str (Lib.itoa ((dn.length : Int) + 1)), .int .i64 y.place, .str y.set, .int .i64 y.time, .fz 2 (y.paras.map paA)]) = List.map scA ((dn ++ [nm dn.length y]) ++ r) := by
          simp [nm, scA]
        rw [hset]
        refine go (N := 27) Tryz.ntmps66 300 ?_
        simp only [go_sem, Nat.reduceAdd, Nat.reduceMul, Nat.reduceSub, Nat.reduceBEq, Nat.reduceLT, Nat.reduceLeDiff, reduceIte, reduceCtorEq, Int.reduceToNat, Int.reduceLE, Int.reduceLT, Int.reduceNe, Int.reduceMul, Int.reduceAdd, Int.reduceSub, Int.reduceDiv, Int.reduceMod, Int.reduceEq, Int.reduceGE, Int.reduceGT, Int.reduceNeg, Int.reduceBEq, Int.reduceBNe, Nat.reduceEqDiff]
        refine ⟨by omega, by omega, ?_⟩
        rw [show (dn.length : Int) + 1 = ((dn ++ [nm dn.length y]).length : Int) by simp]
        refine ainv (hJ (dn ++ [nm dn.length y], r) ⟨by simp at g1 ⊢; omega, by rw [← g2]; simp [numL]⟩ (by simp)) (Shift.weak ?_)
        simp only [wk, go_sem, Nat.reduceAdd, Nat.reduceMul, Nat.reduceSub, Nat.reduceBEq, Nat.reduceLT, Nat.reduceLeDiff, reduceIte, reduceCtorEq, Int.reduceToNat, Int.reduceLE, Int.reduceLT, Int.reduceNe, Int.reduceMul, Int.reduceAdd, Int.reduceSub, Int.reduceDiv, Int.reduceMod, Int.reduceEq, Int.reduceGE, Int.reduceGT, Int.reduceNeg, Int.reduceBEq, Int.reduceBNe, Nat.reduceEqDiff]
      | nil =>
        have di : decide (((xs.length + 1 : Nat) : Int) < ((xs.length + 1 : Nat) : Int)) = false := by simp
        simp only [List.append_nil, numL] at g2 ⊢
        subst g2
        have hn : dn.length = xs.length + 1 := by simpa using g1
        refine AWp.shift (Shift.frz 2 rfl (frozen_scenes dn)) ?_
        simp only [frzE, frz, frz1, frzB, List.map_cons, List.map_nil, List.set_cons_succ, List.set_cons_zero, Nat.reduceBEq, cond_true, cond_false, Bool.false_and, Bool.true_and, List.length_map, Nat.zero_add, hn, decide_true, Nat.le_refl, List.drop_zero]
        have : List.take (xs.length + 1) (List.map scA dn) = List.map scA dn := List.take_of_length_le (by simp; omega)
        simp only [this]
        refine go (N := 27) Tryz.ntmps66 300 ?_
        simp only [go_sem, Nat.reduceAdd, Nat.reduceMul, Nat.reduceSub, Nat.reduceBEq, Nat.reduceLT, Nat.reduceLeDiff, reduceIte, reduceCtorEq, Int.reduceToNat, Int.reduceLE, Int.reduceLT, Int.reduceNe, Int.reduceMul, Int.reduceAdd, Int.reduceSub, Int.reduceDiv, Int.reduceMod, Int.reduceEq, Int.reduceGE, Int.reduceGT, Int.reduceNeg, Int.reduceBEq, Int.reduceBNe, Nat.reduceEqDiff, di]
        exact aretc [.cell 2 37] rfl [_] ⟨by simp only [go_sem, Nat.reduceAdd, Nat.reduceMul, Nat.reduceSub, Nat.reduceBEq, Nat.reduceLT, Nat.reduceLeDiff, reduceIte, reduceCtorEq, Int.reduceToNat, Int.reduceLE, Int.reduceLT, Int.reduceNe, Int.reduceMul, Int.reduceAdd, Int.reduceSub, Int.reduceDiv, Int.reduceMod, Int.reduceEq, Int.reduceGE, Int.reduceGT, Int.reduceNeg, Int.reduceBEq, Int.reduceBNe, Nat.reduceEqDiff, sideIs, numR], trivial⟩ ⟨rfl, rfl⟩
end Go.Proofs.YtpjbbpilgfihbaaGreatDoor
