/- Draws: a scene. Own work of this seat. -/
import Derived.Test.YtpjbbpilgfihbaaGreatDoorE7
import Derived.Test.YtpjbbpilgfihbaaGreatDoorE4
import Derived.Test.YtpjbbpilgfihbaaGreatDoorE3
import Derived.Test.YtpjbbpilgfihbaaGreatDoorE6
set_option maxRecDepth 100000
set_option linter.unusedSimpArgs false
set_option linter.unusedVariables false
namespace Go.Proofs.YtpjbbpilgfihbaaGreatDoor
open Go Go.Av Go.RowKit
attribute [local go_sem ↓] br_true br_false dbr_true dbr_false dbri_true dbri_false dbrg_true dbrg_false
attribute [local go_sem] run cont br dbr dx dxc dgrd dyld dres dcall calm fieldPlace? allHas step1 opN grdN resN condN exitN stopN exitIt dOk xop xbin xint xarith xstr xbool xpick xnot xneg xextract xpart xpartOk xindex xfieldF fieldD xnew xbox xalloc xfieldAddr xptrAddIf xindexAddr xloadC xload putCells reElem xstoreB xstore xconv xtext xlen xlen2 xcall xfill xbuild cut rep xbuildSlice xbuildSliceD isRow elemD isU8 ev evs evp Go.Av.put Go.Av.get ofConst yldD yldV notBool_undef args0 cellsOf cond_true cond_false decide_true decide_false decide_eq_true_eq decide_eq_false_iff_not List.getElem?_cons_zero List.getElem?_cons_succ List.getElem?_nil List.getD_cons_zero List.getD_cons_succ List.getD_nil List.set_cons_zero List.set_cons_succ List.length_cons List.length_nil List.cons_append List.nil_append List.append_nil List.all_cons List.all_nil List.map_cons List.map_nil List.take_succ_cons List.take_zero List.drop_succ_cons List.drop_zero Bool.and_true Bool.true_and Bool.and_self Bool.and_false Bool.false_and one Go.Av.frozen beq_self_eq_true true_and and_true forall_const false_implies implies_true and_self Option.map_some Option.map_none Nat.zero_add Nat.add_zero Nat.zero_mul Nat.mul_one Nat.one_mul Int.toNat_zero ne_eq not_false_eq_true not_true_eq_false Bool.true_eq_false Bool.false_eq_true List.toList_toArray inr Go.Av.byteOf isByte decide_eq_decide Bool.not_true Bool.not_false Bool.not_eq_true' Bool.or_true Bool.true_or Bool.or_false Bool.false_or ge_iff_le gt_iff_lt and_assoc Bool.decide_eq_true beq_iff_eq beq_eq_false_iff_ne bne_iff_ne bne_self_eq_false if_true if_false Bool.and_eq_true Bool.or_eq_true Bool.and_eq_false_imp Bool.or_eq_false_iff Bool.not_eq_false' has Option.isSome_some Option.isSome_none Int.toNat_natCast Int.cast_ofNat_Int List.length_append xapp2 xapp xappS xappD xappB notInt srcOf srcB byteAV splice' xcut xcutS xcutF xcutB xcutN xcut0 cutL loOf hiOf evo xmake zelem xmax xcopy2 xcopyS xcopyB xnil xcut3 ixOf xclear2 xclearB List.getElem?_toArray xbin2 xnileq xempty xmkmap xmput xmputB xmputF isKey keyEq mfind xbin3 xeqs xeqop eqFs bothB leafEq xlook xlookB xlookF xbytes beq_c_n beq_n_c bne_c_n bne_n_c one_nil dxi dxic dbri rix dck reader blind opOk refOk Go.Op.operands Go.Call.operands List.contains_cons List.contains_nil dxg dxgc dbrg pck putD List.lookup_cons List.lookup_nil ts2 tb2 zl2 za2 Tryz.underlying2 ts3 tb3 zl3 za3 Tryz.underlying3 ts4 tb4 zl4 za4 Tryz.underlying4 ts5 tb5 zl5 za5 Tryz.underlying5 ts6 tb6 zl6 za6 Tryz.underlying6 ts7 tb7 za7 Tryz.underlying7 ts8 tb8 za8 Tryz.underlying8 ts9 tb9 zl9 za9 Tryz.underlying9 ts10 tb10 zl10 za10 Tryz.underlying10 ts11 tb11 zl11 za11 Tryz.underlying11 ts12 tb12 zl12 za12 Tryz.underlying12 ts13 tb13 za13 Tryz.underlying13 ts14 tb14 za14 Tryz.underlying14 ts18 tb18 za18 Tryz.underlying18 ts19 tb19 za19 Tryz.underlying19 ts21 tb21 zl21 za21 Tryz.underlying21 ts22 tb22 zl22 za22 Tryz.underlying22 ts24 tb24 za24 Tryz.underlying24 ts25 tb25 za25 Tryz.underlying25 ts27 tb27 zl27 za27 Tryz.underlying27 ts35 tb35 zl35 za35 Tryz.underlying35 ts36 tb36 za36 Tryz.underlying36 ts37 tb37 za37 Tryz.underlying37 ts39 tb39 zl39 za39 Tryz.underlying39 ts41 tb41 za41 Tryz.underlying41 ts42 tb42 za42 Tryz.underlying42 ts63 tb63 zl63 za63 Tryz.underlying63 ts64 tb64 zl64 za64 Tryz.underlying64 ts65 tb65 za65 Tryz.underlying65 ts66 tb66 za66 Tryz.underlying66 ts67 tb67 zl67 za67 Tryz.underlying67 ts69 tb69 za69 Tryz.underlying69 ts70 tb70 za70 Tryz.underlying70 ts73 tb73 za73 Tryz.underlying73 ts74 tb74 za74 Tryz.underlying74 ts75 tb75 zl75 za75 Tryz.underlying75 ts82 tb82 zl82 za82 Tryz.underlying82 ts96 tb96 za96 Tryz.underlying96 ts97 tb97 za97 Tryz.underlying97 ts103 tb103 za103 Tryz.underlying103 ts104 tb104 za104 Tryz.underlying104 ts109 tb109 zl109 za109 Tryz.underlying109 ts116 tb116 zl116 za116 Tryz.underlying116 ts117 tb117 za117 Tryz.underlying117 ts118 tb118 za118 Tryz.underlying118 ts120 tb120 zl120 za120 Tryz.underlying120 ts124 tb124 zl124 za124 Tryz.underlying124 ts126 tb126 za126 Tryz.underlying126 ts128 tb128 zl128 za128 Tryz.underlying128 ts130 tb130 za130 Tryz.underlying130 ts131 tb131 za131 Tryz.underlying131 ts153 tb153 zl153 za153 Tryz.underlying153 ts167 tb167 zl167 za167 Tryz.underlying167 ts171 tb171 zl171 za171 Tryz.underlying171 ts177 tb177 zl177 za177 Tryz.underlying177 ts183 tb183 zl183 za183 Tryz.underlying183 ts189 tb189 zl189 za189 Tryz.underlying189 ts191 tb191 zl191 za191 Tryz.underlying191 ts195 tb195 za195 Tryz.underlying195 ts196 tb196 za196 Tryz.underlying196 ts198 tb198 zl198 za198 Tryz.underlying198 ts203 tb203 Tryz.underlying203 ts209 tb209 za209 Tryz.underlying209 ts210 tb210 za210 Tryz.underlying210 ts211 tb211 Tryz.underlying211 ts216 tb216 za216 Tryz.underlying216 ts217 tb217 za217 Tryz.underlying217 ts220 tb220 Tryz.underlying220 ts225 tb225 Tryz.underlying225 ts226 tb226 Tryz.underlying226 ts227 tb227 za227 Tryz.underlying227 ts228 tb228 za228 Tryz.underlying228 ts232 tb232 zl232 za232 Tryz.underlying232 ts233 tb233 zl233 za233 Tryz.underlying233 ts235 tb235 zl235 za235 Tryz.underlying235 ts236 tb236 zl236 za236 Tryz.underlying236 ts237 tb237 za237 Tryz.underlying237 ts238 tb238 za238 Tryz.underlying238

theorem frz_str (id e : Nat) (l : List AV) (L : List Int) (k : Int) : frz id e l (str L k) = str L k := rfl

/-- a scene that is drawn -/
structure DrawnS (x : Sc) : Prop where
  no : x.no = []
  place : 1 ≤ x.place ∧ x.place ≤ 3
  set : x.set ∈ SetL
  time : 1 ≤ x.time ∧ x.time ≤ 5
  run : ∃ e, runL 0 x.paras = some e ∧ e ≠ 2 ∧ e ≠ 3
  len : x.paras.length ≤ 60
  all : ∀ p ∈ x.paras, DrawnP p

set_option maxHeartbeats 2000000 in
theorem scene_mc (L : List Int) (k : Int) (h3 : 0 ≤ k) (h4 : k ≤ 700000) :
    Mc Tryz.prog 68 2 (str L k) [] (fun r s => ∃ (x : Sc) (k' : Int), r = scA x ∧ DrawnS x ∧ s = str L k' ∧ k ≤ k' ∧ k' ≤ k + 5000) := by
  refine ct_intro Tryz.func68 rfl Tryz.ntmps68 hB68 (by simp) fun h ρ w => goF (N := 27) Tryz.ntmps68 300 ?_
  simp only [go_sem, Nat.reduceAdd, Nat.reduceMul, Nat.reduceSub, Nat.reduceBEq, Nat.reduceLT, Nat.reduceLeDiff, reduceIte, reduceCtorEq, Int.reduceToNat, Int.reduceLE, Int.reduceLT, Int.reduceNe, Int.reduceMul, Int.reduceAdd, Int.reduceSub, Int.reduceDiv, Int.reduceMod, Int.reduceEq, Int.reduceGE, Int.reduceGT, Int.reduceNeg, Int.reduceBEq, Int.reduceBNe, Nat.reduceEqDiff]
  refine mcall (range_mc L k 1 3 (by omega) (by omega) (by omega) (by omega) (by omega)) rfl rfl (id := 0) rfl (N := 27) Tryz.ntmps68 rfl ?_
  rintro _ _ ⟨⟨pl, rfl, hp1, hp2⟩, rfl⟩
  refine goF (N := 27) Tryz.ntmps68 300 ?_
  simp only [go_sem, Nat.reduceAdd, Nat.reduceMul, Nat.reduceSub, Nat.reduceBEq, Nat.reduceLT, Nat.reduceLeDiff, reduceIte, reduceCtorEq, Int.reduceToNat, Int.reduceLE, Int.reduceLT, Int.reduceNe, Int.reduceMul, Int.reduceAdd, Int.reduceSub, Int.reduceDiv, Int.reduceMod, Int.reduceEq, Int.reduceGE, Int.reduceGT, Int.reduceNeg, Int.reduceBEq, Int.reduceBNe, Nat.reduceEqDiff]
  refine pcall1 (sets_pc) rfl (N := 27) Tryz.ntmps68 rfl (go (N := 27) Tryz.ntmps68 300 ?_)
  simp only [go_sem, Nat.reduceAdd, Nat.reduceMul, Nat.reduceSub, Nat.reduceBEq, Nat.reduceLT, Nat.reduceLeDiff, reduceIte, reduceCtorEq, Int.reduceToNat, Int.reduceLE, Int.reduceLT, Int.reduceNe, Int.reduceMul, Int.reduceAdd, Int.reduceSub, Int.reduceDiv, Int.reduceMod, Int.reduceEq, Int.reduceGE, Int.reduceGT, Int.reduceNeg, Int.reduceBEq, Int.reduceBNe, Nat.reduceEqDiff]
  refine mcall (one_mc L (k + 1) SetL (by decide) (by decide) (by omega) (by omega)) rfl rfl (id := 0) rfl (N := 27) Tryz.ntmps68 rfl ?_
  rintro _ _ ⟨⟨st, hst, rfl⟩, rfl⟩
  refine goF (N := 27) Tryz.ntmps68 300 ?_
  simp only [go_sem, Nat.reduceAdd, Nat.reduceMul, Nat.reduceSub, Nat.reduceBEq, Nat.reduceLT, Nat.reduceLeDiff, reduceIte, reduceCtorEq, Int.reduceToNat, Int.reduceLE, Int.reduceLT, Int.reduceNe, Int.reduceMul, Int.reduceAdd, Int.reduceSub, Int.reduceDiv, Int.reduceMod, Int.reduceEq, Int.reduceGE, Int.reduceGT, Int.reduceNeg, Int.reduceBEq, Int.reduceBNe, Nat.reduceEqDiff]
  refine mcall (range_mc L (k + 1 + 1) 1 5 (by omega) (by omega) (by omega) (by omega) (by omega)) rfl rfl (id := 0) rfl (N := 27) Tryz.ntmps68 rfl ?_
  rintro _ _ ⟨⟨tm, rfl, ht1, ht2⟩, rfl⟩
  refine goF (N := 27) Tryz.ntmps68 300 ?_
  simp only [go_sem, Nat.reduceAdd, Nat.reduceMul, Nat.reduceSub, Nat.reduceBEq, Nat.reduceLT, Nat.reduceLeDiff, reduceIte, reduceCtorEq, Int.reduceToNat, Int.reduceLE, Int.reduceLT, Int.reduceNe, Int.reduceMul, Int.reduceAdd, Int.reduceSub, Int.reduceDiv, Int.reduceMod, Int.reduceEq, Int.reduceGE, Int.reduceGT, Int.reduceNeg, Int.reduceBEq, Int.reduceBNe, Nat.reduceEqDiff]
  refine mcall (pick_mc L (k + 1 + 1 + 1) [2, 5, 12] (by decide) (by decide) (by omega) (by omega)) rfl rfl (id := 0) rfl (N := 27) Tryz.ntmps68 rfl ?_
  rintro _ _ ⟨⟨n, hn, rfl⟩, rfl⟩
  have pn : 1 ≤ n ∧ n ≤ 12 := (show ∀ x ∈ [(2 : Int), 5, 12], 1 ≤ x ∧ x ≤ 12 by decide) n hn
  refine goF (N := 27) Tryz.ntmps68 300 ?_
  simp only [go_sem, Nat.reduceAdd, Nat.reduceMul, Nat.reduceSub, Nat.reduceBEq, Nat.reduceLT, Nat.reduceLeDiff, reduceIte, reduceCtorEq, Int.reduceToNat, Int.reduceLE, Int.reduceLT, Int.reduceNe, Int.reduceMul, Int.reduceAdd, Int.reduceSub, Int.reduceDiv, Int.reduceMod, Int.reduceEq, Int.reduceGE, Int.reduceGT, Int.reduceNeg, Int.reduceBEq, Int.reduceBNe, Nat.reduceEqDiff]
  refine mcall (next_mc L (k + 1 + 1 + 1 + 1) n (by omega) (by omega) (by omega) (by omega)) rfl rfl (id := 0) rfl (N := 27) Tryz.ntmps68 rfl ?_
  rintro _ _ ⟨⟨v, rfl, hv0, hv1⟩, rfl⟩
  refine goF (N := 27) Tryz.ntmps68 300 ?_
  simp only [go_sem, Nat.reduceAdd, Nat.reduceMul, Nat.reduceSub, Nat.reduceBEq, Nat.reduceLT, Nat.reduceLeDiff, reduceIte, reduceCtorEq, Int.reduceToNat, Int.reduceLE, Int.reduceLT, Int.reduceNe, Int.reduceMul, Int.reduceAdd, Int.reduceSub, Int.reduceDiv, Int.reduceMod, Int.reduceEq, Int.reduceGE, Int.reduceGT, Int.reduceNeg, Int.reduceBEq, Int.reduceBNe, Nat.reduceEqDiff]
  refine aloop (ι := Int × Int × List Pa) (fun x => (v - x.1).toNat)
    (fun x => [(17, .int .i64 x.1), (16, .int .i64 v), (3, .ptr 2 1 0 0), (2, .ptr 1 1 0 0), (0, .ptr 0 1 0 0)])
    (fun x => [.arr 2 [str L x.2.1], .arr 5 [.agg [.str [], .int .i64 0, .str [], .int .i64 0, .raw (.slice none 0 0)]], .arr 5 [.agg [.str [], .int .i64 pl, .str st, .int .i64 tm, .sl 3 0 x.2.2.length x.2.2.length]], .arr 2 (x.2.2.map paA)])
    (fun x => 0 ≤ x.1 ∧ x.1 ≤ v ∧ k ≤ x.2.1 ∧ x.2.1 ≤ k + 5 + 400 * x.1 ∧ (∃ e, runL 0 x.2.2 = some e ∧ e ≠ 2 ∧ e ≠ 3) ∧ (∀ p ∈ x.2.2, DrawnP p) ∧ (x.2.2.length : Int) ≤ 5 * x.1)
    (0, k + 1 + 1 + 1 + 1 + 1, []) ⟨Int.le_refl _, by simp only; omega, by simp only; omega, by simp only; omega, ⟨0, rfl, by decide, by decide⟩, by simp, by simp⟩ ?_ ?_
  · refine Shift.trans (Shift.cells 2 2 [.agg [.str [], .int .i64 pl, .str st, .int .i64 tm, .sl 3 0 0 0]] rfl rfl (by simp [cellsOf]) ⟨.refl, .refl, .refl, .refl, .sl, trivial⟩) (Shift.weak ?_)
    simp only [wk, go_sem, Nat.reduceAdd, Nat.reduceMul, Nat.reduceSub, Nat.reduceBEq, Nat.reduceLT, Nat.reduceLeDiff, reduceIte, reduceCtorEq, Int.reduceToNat, Int.reduceLE, Int.reduceLT, Int.reduceNe, Int.reduceMul, Int.reduceAdd, Int.reduceSub, Int.reduceDiv, Int.reduceMod, Int.reduceEq, Int.reduceGE, Int.reduceGT, Int.reduceNeg, Int.reduceBEq, Int.reduceBNe, Nat.reduceEqDiff]
  · rintro ⟨i, k', ps⟩ ⟨g1, g2, g3, g4, ⟨e, g5, g6, g7⟩, g8, g9⟩ J hJ
    simp only at g1 g2 g3 g4 g5 g6 g7 g8 g9 hJ ⊢
    by_cases gi : i < v
    · have di : decide (i < v) = true := by simp; omega
      refine go (N := 27) Tryz.ntmps68 300 ?_
      simp only [go_sem, Nat.reduceAdd, Nat.reduceMul, Nat.reduceSub, Nat.reduceBEq, Nat.reduceLT, Nat.reduceLeDiff, reduceIte, reduceCtorEq, Int.reduceToNat, Int.reduceLE, Int.reduceLT, Int.reduceNe, Int.reduceMul, Int.reduceAdd, Int.reduceSub, Int.reduceDiv, Int.reduceMod, Int.reduceEq, Int.reduceGE, Int.reduceGT, Int.reduceNeg, Int.reduceBEq, Int.reduceBNe, Nat.reduceEqDiff, di]
      refine adrawI [3] 0 [] mixed (by decide) (N := 27) Tryz.ntmps68 (by decide) 100 ?_
      simp only [go_sem, Nat.reduceAdd, Nat.reduceMul, Nat.reduceSub, Nat.reduceBEq, Nat.reduceLT, Nat.reduceLeDiff, reduceIte, reduceCtorEq, Int.reduceToNat, Int.reduceLE, Int.reduceLT, Int.reduceNe, Int.reduceMul, Int.reduceAdd, Int.reduceSub, Int.reduceDiv, Int.reduceMod, Int.reduceEq, Int.reduceGE, Int.reduceGT, Int.reduceNeg, Int.reduceBEq, Int.reduceBNe, Nat.reduceEqDiff]
      refine icall (paras_mc L k' (by omega) (by omega)) rfl rfl rfl ⟨_, _, [⟨5, [69, 78, 68]⟩], k', rfl, block_one (drawn_turn (by simp [TurnL])) (.inr rfl), rfl, by omega, by omega⟩ ?_
      rintro _ _ ⟨b, k2, rfl, hb, rfl, t1, t2⟩
      simp only [go_sem, Nat.reduceAdd, Nat.reduceMul, Nat.reduceSub, Nat.reduceBEq, Nat.reduceLT, Nat.reduceLeDiff, reduceIte, reduceCtorEq, Int.reduceToNat, Int.reduceLE, Int.reduceLT, Int.reduceNe, Int.reduceMul, Int.reduceAdd, Int.reduceSub, Int.reduceDiv, Int.reduceMod, Int.reduceEq, Int.reduceGE, Int.reduceGT, Int.reduceNeg, Int.reduceBEq, Int.reduceBNe, Nat.reduceEqDiff]
      refine ⟨by simp, .inl trivial, by simp; have := hb.len.2; omega, by simp; have := hb.len.2; omega, ?_⟩
      refine go (N := 27) Tryz.ntmps68 300 ?_
      simp only [go_sem, Nat.reduceAdd, Nat.reduceMul, Nat.reduceSub, Nat.reduceBEq, Nat.reduceLT, Nat.reduceLeDiff, reduceIte, reduceCtorEq, Int.reduceToNat, Int.reduceLE, Int.reduceLT, Int.reduceNe, Int.reduceMul, Int.reduceAdd, Int.reduceSub, Int.reduceDiv, Int.reduceMod, Int.reduceEq, Int.reduceGE, Int.reduceGT, Int.reduceNeg, Int.reduceBEq, Int.reduceBNe, Nat.reduceEqDiff]
      refine ⟨by omega, by omega, ?_⟩
      rw [← List.map_append, show ps.length + (List.map paA b).length = (ps ++ b).length by simp]
      obtain ⟨e', r1, r2, r3⟩ := hb.run e g6 g7
      have := hb.len
      refine ainv (hJ (i + 1, k2, ps ++ b) ⟨by simp only; omega, by simp only; omega, by simp only; omega, by simp only; omega, ⟨e', by rw [runL_append _ _ _ _ g5]; exact r1, r2, r3⟩, fun p hp => ?_, by simp; omega⟩ (by simp only; omega)) (Shift.weak ?_)
      · rcases List.mem_append.1 hp with hp | hp
        · exact g8 p hp
        · exact hb.all p hp
      · simp only [wk, go_sem, Nat.reduceAdd, Nat.reduceMul, Nat.reduceSub, Nat.reduceBEq, Nat.reduceLT, Nat.reduceLeDiff, reduceIte, reduceCtorEq, Int.reduceToNat, Int.reduceLE, Int.reduceLT, Int.reduceNe, Int.reduceMul, Int.reduceAdd, Int.reduceSub, Int.reduceDiv, Int.reduceMod, Int.reduceEq, Int.reduceGE, Int.reduceGT, Int.reduceNeg, Int.reduceBEq, Int.reduceBNe, Nat.reduceEqDiff, List.length_map]
    · have di : decide (i < v) = false := by simp; omega
      refine AWp.shift (Shift.frz 3 rfl (frozen_paras ps)) ?_
      simp only [↓frz_str, frzE, frz, frz1, frzB, List.map_cons, List.map_nil, List.set_cons_succ, List.set_cons_zero, Nat.reduceBEq, cond_true, cond_false, Bool.false_and, Bool.true_and, List.length_map, Nat.zero_add, decide_true, Nat.le_refl, List.drop_zero]
      have : List.take ps.length (List.map paA ps) = List.map paA ps := List.take_of_length_le (by simp)
      simp only [this]
      refine go (N := 27) Tryz.ntmps68 300 ?_
      simp only [go_sem, Nat.reduceAdd, Nat.reduceMul, Nat.reduceSub, Nat.reduceBEq, Nat.reduceLT, Nat.reduceLeDiff, reduceIte, reduceCtorEq, Int.reduceToNat, Int.reduceLE, Int.reduceLT, Int.reduceNe, Int.reduceMul, Int.reduceAdd, Int.reduceSub, Int.reduceDiv, Int.reduceMod, Int.reduceEq, Int.reduceGE, Int.reduceGT, Int.reduceNeg, Int.reduceBEq, Int.reduceBNe, Nat.reduceEqDiff, di]
      exact aretc [.cell 2 66] rfl [_] ⟨by simp only [go_sem, Nat.reduceAdd, Nat.reduceMul, Nat.reduceSub, Nat.reduceBEq, Nat.reduceLT, Nat.reduceLeDiff, reduceIte, reduceCtorEq, Int.reduceToNat, Int.reduceLE, Int.reduceLT, Int.reduceNe, Int.reduceMul, Int.reduceAdd, Int.reduceSub, Int.reduceDiv, Int.reduceMod, Int.reduceEq, Int.reduceGE, Int.reduceGT, Int.reduceNeg, Int.reduceBEq, Int.reduceBNe, Nat.reduceEqDiff, sideIs], trivial⟩ ⟨_, _, rfl, ⟨⟨[], pl, st, tm, ps⟩, k', rfl, ⟨rfl, ⟨hp1, hp2⟩, hst, ⟨ht1, ht2⟩, ⟨e, g5, g6, g7⟩, by simp only; omega, g8⟩, rfl, g3, by omega⟩, rfl, rfl⟩
end Go.Proofs.YtpjbbpilgfihbaaGreatDoor
/- Draws: a script without numbers. Own work of this seat. -/
set_option maxRecDepth 100000
set_option linter.unusedSimpArgs false
set_option linter.unusedVariables false
namespace Go.Proofs.YtpjbbpilgfihbaaGreatDoor
open Go Go.Av Go.RowKit
attribute [local go_sem ↓] br_true br_false dbr_true dbr_false dbri_true dbri_false dbrg_true dbrg_false
attribute [local go_sem] run cont br dbr dx dxc dgrd dyld dres dcall calm fieldPlace? allHas step1 opN grdN resN condN exitN stopN exitIt dOk xop xbin xint xarith xstr xbool xpick xnot xneg xextract xpart xpartOk xindex xfieldF fieldD xnew xbox xalloc xfieldAddr xptrAddIf xindexAddr xloadC xload putCells reElem xstoreB xstore xconv xtext xlen xlen2 xcall xfill xbuild cut rep xbuildSlice xbuildSliceD isRow elemD isU8 ev evs evp Go.Av.put Go.Av.get ofConst yldD yldV notBool_undef args0 cellsOf cond_true cond_false decide_true decide_false decide_eq_true_eq decide_eq_false_iff_not List.getElem?_cons_zero List.getElem?_cons_succ List.getElem?_nil List.getD_cons_zero List.getD_cons_succ List.getD_nil List.set_cons_zero List.set_cons_succ List.length_cons List.length_nil List.cons_append List.nil_append List.append_nil List.all_cons List.all_nil List.map_cons List.map_nil List.take_succ_cons List.take_zero List.drop_succ_cons List.drop_zero Bool.and_true Bool.true_and Bool.and_self Bool.and_false Bool.false_and one Go.Av.frozen beq_self_eq_true true_and and_true forall_const false_implies implies_true and_self Option.map_some Option.map_none Nat.zero_add Nat.add_zero Nat.zero_mul Nat.mul_one Nat.one_mul Int.toNat_zero ne_eq not_false_eq_true not_true_eq_false Bool.true_eq_false Bool.false_eq_true List.toList_toArray inr Go.Av.byteOf isByte decide_eq_decide Bool.not_true Bool.not_false Bool.not_eq_true' Bool.or_true Bool.true_or Bool.or_false Bool.false_or ge_iff_le gt_iff_lt and_assoc Bool.decide_eq_true beq_iff_eq beq_eq_false_iff_ne bne_iff_ne bne_self_eq_false if_true if_false Bool.and_eq_true Bool.or_eq_true Bool.and_eq_false_imp Bool.or_eq_false_iff Bool.not_eq_false' has Option.isSome_some Option.isSome_none Int.toNat_natCast Int.cast_ofNat_Int List.length_append xapp2 xapp xappS xappD xappB notInt srcOf srcB byteAV splice' xcut xcutS xcutF xcutB xcutN xcut0 cutL loOf hiOf evo xmake zelem xmax xcopy2 xcopyS xcopyB xnil xcut3 ixOf xclear2 xclearB List.getElem?_toArray xbin2 xnileq xempty xmkmap xmput xmputB xmputF isKey keyEq mfind xbin3 xeqs xeqop eqFs bothB leafEq xlook xlookB xlookF xbytes beq_c_n beq_n_c bne_c_n bne_n_c one_nil dxi dxic dbri rix dck reader blind opOk refOk Go.Op.operands Go.Call.operands List.contains_cons List.contains_nil dxg dxgc dbrg pck putD List.lookup_cons List.lookup_nil ts2 tb2 zl2 za2 Tryz.underlying2 ts3 tb3 zl3 za3 Tryz.underlying3 ts4 tb4 zl4 za4 Tryz.underlying4 ts5 tb5 zl5 za5 Tryz.underlying5 ts6 tb6 zl6 za6 Tryz.underlying6 ts7 tb7 za7 Tryz.underlying7 ts8 tb8 za8 Tryz.underlying8 ts9 tb9 zl9 za9 Tryz.underlying9 ts10 tb10 zl10 za10 Tryz.underlying10 ts11 tb11 zl11 za11 Tryz.underlying11 ts12 tb12 zl12 za12 Tryz.underlying12 ts13 tb13 za13 Tryz.underlying13 ts14 tb14 za14 Tryz.underlying14 ts18 tb18 za18 Tryz.underlying18 ts19 tb19 za19 Tryz.underlying19 ts21 tb21 zl21 za21 Tryz.underlying21 ts22 tb22 zl22 za22 Tryz.underlying22 ts24 tb24 za24 Tryz.underlying24 ts25 tb25 za25 Tryz.underlying25 ts27 tb27 zl27 za27 Tryz.underlying27 ts35 tb35 zl35 za35 Tryz.underlying35 ts36 tb36 za36 Tryz.underlying36 ts37 tb37 za37 Tryz.underlying37 ts39 tb39 zl39 za39 Tryz.underlying39 ts41 tb41 za41 Tryz.underlying41 ts42 tb42 za42 Tryz.underlying42 ts63 tb63 zl63 za63 Tryz.underlying63 ts64 tb64 zl64 za64 Tryz.underlying64 ts65 tb65 za65 Tryz.underlying65 ts66 tb66 za66 Tryz.underlying66 ts67 tb67 zl67 za67 Tryz.underlying67 ts69 tb69 za69 Tryz.underlying69 ts70 tb70 za70 Tryz.underlying70 ts73 tb73 za73 Tryz.underlying73 ts74 tb74 za74 Tryz.underlying74 ts75 tb75 zl75 za75 Tryz.underlying75 ts82 tb82 zl82 za82 Tryz.underlying82 ts96 tb96 za96 Tryz.underlying96 ts97 tb97 za97 Tryz.underlying97 ts103 tb103 za103 Tryz.underlying103 ts104 tb104 za104 Tryz.underlying104 ts109 tb109 zl109 za109 Tryz.underlying109 ts116 tb116 zl116 za116 Tryz.underlying116 ts117 tb117 za117 Tryz.underlying117 ts118 tb118 za118 Tryz.underlying118 ts120 tb120 zl120 za120 Tryz.underlying120 ts124 tb124 zl124 za124 Tryz.underlying124 ts126 tb126 za126 Tryz.underlying126 ts128 tb128 zl128 za128 Tryz.underlying128 ts130 tb130 za130 Tryz.underlying130 ts131 tb131 za131 Tryz.underlying131 ts153 tb153 zl153 za153 Tryz.underlying153 ts167 tb167 zl167 za167 Tryz.underlying167 ts171 tb171 zl171 za171 Tryz.underlying171 ts177 tb177 zl177 za177 Tryz.underlying177 ts183 tb183 zl183 za183 Tryz.underlying183 ts189 tb189 zl189 za189 Tryz.underlying189 ts191 tb191 zl191 za191 Tryz.underlying191 ts195 tb195 za195 Tryz.underlying195 ts196 tb196 za196 Tryz.underlying196 ts198 tb198 zl198 za198 Tryz.underlying198 ts203 tb203 Tryz.underlying203 ts209 tb209 za209 Tryz.underlying209 ts210 tb210 za210 Tryz.underlying210 ts211 tb211 Tryz.underlying211 ts216 tb216 za216 Tryz.underlying216 ts217 tb217 za217 Tryz.underlying217 ts220 tb220 Tryz.underlying220 ts225 tb225 Tryz.underlying225 ts226 tb226 Tryz.underlying226 ts227 tb227 za227 Tryz.underlying227 ts228 tb228 za228 Tryz.underlying228 ts232 tb232 zl232 za232 Tryz.underlying232 ts233 tb233 zl233 za233 Tryz.underlying233 ts235 tb235 zl235 za235 Tryz.underlying235 ts236 tb236 zl236 za236 Tryz.underlying236 ts237 tb237 za237 Tryz.underlying237 ts238 tb238 za238 Tryz.underlying238

def TitleL : List (List UInt8) := [[84], [84, 104, 101, 32, 77, 105, 108, 108], [65, 32, 45, 32, 66]]

/-- a script that is drawn, without numbers -/
structure DrawnR (x : Sr) : Prop where
  title : x.title ∈ TitleL
  len : x.scenes.length ≤ 5
  all : ∀ y ∈ x.scenes, DrawnS y
  first : ∀ y, x.scenes.head? = some y → y.time ≠ 5

theorem frozen_scenes (ps : List Sc) : (flat (ps.map scA)).all Av.frozen = true := by
  induction ps with
  | nil => rfl
  | cons y l ih => simpa [flat, cellsOf, scA, Av.frozen] using ih

set_option maxHeartbeats 2000000 in
theorem script_mc (L : List Int) (k : Int) (h3 : 0 ≤ k) (h4 : k ≤ 600000) :
    Mc Tryz.prog 30 2 (str L k) [] (fun r s => ∃ (x : Sr) (k' : Int), r = srA x ∧ DrawnR x ∧ s = str L k' ∧ k ≤ k' ∧ k' ≤ k + 30000) := by
  refine ct_intro Tryz.func30 rfl Tryz.ntmps30 hB30 (by simp) fun h ρ w => goF (N := 33) Tryz.ntmps30 300 ?_
  simp only [go_sem, Nat.reduceAdd, Nat.reduceMul, Nat.reduceSub, Nat.reduceBEq, Nat.reduceLT, Nat.reduceLeDiff, reduceIte, reduceCtorEq, Int.reduceToNat, Int.reduceLE, Int.reduceLT, Int.reduceNe, Int.reduceMul, Int.reduceAdd, Int.reduceSub, Int.reduceDiv, Int.reduceMod, Int.reduceEq, Int.reduceGE, Int.reduceGT, Int.reduceNeg, Int.reduceBEq, Int.reduceBNe, Nat.reduceEqDiff]
  refine mcall (one_mc L k TitleL (by decide) (by decide) (by omega) (by omega)) rfl rfl (id := 0) rfl (N := 33) Tryz.ntmps30 rfl ?_
  rintro _ _ ⟨⟨ti, hti, rfl⟩, rfl⟩
  refine goF (N := 33) Tryz.ntmps30 300 ?_
  simp only [go_sem, Nat.reduceAdd, Nat.reduceMul, Nat.reduceSub, Nat.reduceBEq, Nat.reduceLT, Nat.reduceLeDiff, reduceIte, reduceCtorEq, Int.reduceToNat, Int.reduceLE, Int.reduceLT, Int.reduceNe, Int.reduceMul, Int.reduceAdd, Int.reduceSub, Int.reduceDiv, Int.reduceMod, Int.reduceEq, Int.reduceGE, Int.reduceGT, Int.reduceNeg, Int.reduceBEq, Int.reduceBNe, Nat.reduceEqDiff]
  refine mcall (next_mc L (k + 1) 6 (by omega) (by omega) (by omega) (by omega)) rfl rfl (id := 0) rfl (N := 33) Tryz.ntmps30 rfl ?_
  rintro _ _ ⟨⟨v, rfl, hv0, hv1⟩, rfl⟩
  refine goF (N := 33) Tryz.ntmps30 300 ?_
  simp only [go_sem, Nat.reduceAdd, Nat.reduceMul, Nat.reduceSub, Nat.reduceBEq, Nat.reduceLT, Nat.reduceLeDiff, reduceIte, reduceCtorEq, Int.reduceToNat, Int.reduceLE, Int.reduceLT, Int.reduceNe, Int.reduceMul, Int.reduceAdd, Int.reduceSub, Int.reduceDiv, Int.reduceMod, Int.reduceEq, Int.reduceGE, Int.reduceGT, Int.reduceNeg, Int.reduceBEq, Int.reduceBNe, Nat.reduceEqDiff]
  refine aloop (ι := Int × Int × List Sc) (fun x => (v - x.1).toNat)
    (fun x => [(11, .int .i64 x.1), (10, .int .i64 v), (3, .ptr 2 1 0 0), (2, .ptr 1 1 0 0), (0, .ptr 0 1 0 0)])
    (fun x => [.arr 2 [str L x.2.1], .arr 2 [.agg [.str [], .raw (.slice none 0 0)]], .arr 2 [.agg [.str ti, .sl 3 0 x.2.2.length x.2.2.length]], .arr 5 (x.2.2.map scA)])
    (fun x => 0 ≤ x.1 ∧ x.1 ≤ v ∧ k ≤ x.2.1 ∧ x.2.1 ≤ k + 2 + 5000 * x.1 ∧ (x.2.2.length : Int) = x.1 ∧ (∀ y ∈ x.2.2, DrawnS y) ∧ (∀ y, x.2.2.head? = some y → y.time ≠ 5))
    (0, k + 1 + 1, []) ⟨Int.le_refl _, by simp only; omega, by simp only; omega, by simp only; omega, rfl, by simp, by simp⟩ ?_ ?_
  · refine Shift.trans (Shift.cells 2 5 [.agg [.str ti, .sl 3 0 0 0]] rfl rfl (by simp [cellsOf]) ⟨.refl, .sl, trivial⟩) (Shift.weak ?_)
    simp only [wk, go_sem, Nat.reduceAdd, Nat.reduceMul, Nat.reduceSub, Nat.reduceBEq, Nat.reduceLT, Nat.reduceLeDiff, reduceIte, reduceCtorEq, Int.reduceToNat, Int.reduceLE, Int.reduceLT, Int.reduceNe, Int.reduceMul, Int.reduceAdd, Int.reduceSub, Int.reduceDiv, Int.reduceMod, Int.reduceEq, Int.reduceGE, Int.reduceGT, Int.reduceNeg, Int.reduceBEq, Int.reduceBNe, Nat.reduceEqDiff]
  · rintro ⟨i, k', xs⟩ ⟨g1, g2, g3, g4, g5, g6, g7⟩ J hJ
    simp only at g1 g2 g3 g4 g5 g6 g7 hJ ⊢
    by_cases gi : i < v
    · have di : decide (i < v) = true := by simp; omega
      refine goF (N := 33) Tryz.ntmps30 300 ?_
      simp only [go_sem, Nat.reduceAdd, Nat.reduceMul, Nat.reduceSub, Nat.reduceBEq, Nat.reduceLT, Nat.reduceLeDiff, reduceIte, reduceCtorEq, Int.reduceToNat, Int.reduceLE, Int.reduceLT, Int.reduceNe, Int.reduceMul, Int.reduceAdd, Int.reduceSub, Int.reduceDiv, Int.reduceMod, Int.reduceEq, Int.reduceGE, Int.reduceGT, Int.reduceNeg, Int.reduceBEq, Int.reduceBNe, Nat.reduceEqDiff, di]
      refine mcall (scene_mc L k' (by omega) (by omega)) rfl rfl (id := 0) rfl (N := 33) Tryz.ntmps30 rfl ?_
      rintro _ _ ⟨x, k2, rfl, hx, rfl, t1, t2⟩
      have hlen : (List.map scA xs).length = xs.length := by simp
      have e2 : ∀ a b c d f, List.map scA xs ++ [AV.agg [.str a, .int .i64 b, .str c, .int .i64 d, .fz 2 (List.map paA f)]] = List.map scA (xs ++ [⟨a, b, c, d, f⟩]) := fun _ _ _ _ _ => by simp [scA]
      have e3 : ∀ y : Sc, xs.length + 1 = (xs ++ [y]).length := fun y => by simp
      have fin : ∀ y : Sc, DrawnS y → (xs = [] → y.time ≠ 5) → _ := fun y hy h5 => hJ (i + 1, k2, xs ++ [y]) ⟨by simp only; omega, by simp only; omega, by simp only; omega, by simp only; omega, by simp; omega, fun z hz => by
          rcases List.mem_append.1 hz with hz | hz
          · exact g6 z hz
          · rw [List.mem_singleton.1 hz]; exact hy, fun z hz => by
          cases xs with
          | nil => simp at hz; rw [← hz]; exact h5 rfl
          | cons a r => exact g7 z (by simpa using hz)⟩ (by simp only; omega)
      simp only [scA]
      refine goF (N := 33) Tryz.ntmps30 300 ?_
      by_cases h0 : xs = []
      · have q0 : ((xs.length : Int) == 0) = true := by simp [h0]
        by_cases h5 : x.time = 5
        · have q5 : (x.time == 5) = true := by simpa using h5
          simp only [go_sem, Nat.reduceAdd, Nat.reduceMul, Nat.reduceSub, Nat.reduceBEq, Nat.reduceLT, Nat.reduceLeDiff, reduceIte, reduceCtorEq, Int.reduceToNat, Int.reduceLE, Int.reduceLT, Int.reduceNe, Int.reduceMul, Int.reduceAdd, Int.reduceSub, Int.reduceDiv, Int.reduceMod, Int.reduceEq, Int.reduceGE, Int.reduceGT, Int.reduceNeg, Int.reduceBEq, Int.reduceBNe, Nat.reduceEqDiff, q0, q5]
          refine ⟨by simp, by first | omega | (simp; done) | (simp; omega), by first | omega | (simp; done) | (simp; omega), by first | omega | (simp; done) | (simp; omega), by first | omega | (simp; done) | (simp; omega), by omega, by omega, ?_⟩
          rw [e2, e3 ⟨x.no, x.place, x.set, 2, x.paras⟩]
          refine ainv (fin ⟨x.no, x.place, x.set, 2, x.paras⟩ ⟨hx.no, hx.place, hx.set, by simp, hx.run, hx.len, hx.all⟩ (fun _ => by simp)) (Shift.low 4 (by simp) (by simp) ?_ ?_)
          · have := frozen_scenes (xs ++ [⟨x.no, x.place, x.set, 2, x.paras⟩])
            simp only [List.take_succ_cons, List.take_zero, List.all_cons, List.all_nil, lowB, flat, cellsOf, lowC, str, Av.frozen, decide_true, List.append_nil, List.cons_append, List.nil_append, low_all this, Nat.reduceLT, Bool.and_self]
          · simp only [wkl, lowV, lowC, Av.get, go_sem, Nat.reduceAdd, Nat.reduceMul, Nat.reduceSub, Nat.reduceBEq, Nat.reduceLT, Nat.reduceLeDiff, reduceIte, reduceCtorEq, Int.reduceToNat, Int.reduceLE, Int.reduceLT, Int.reduceNe, Int.reduceMul, Int.reduceAdd, Int.reduceSub, Int.reduceDiv, Int.reduceMod, Int.reduceEq, Int.reduceGE, Int.reduceGT, Int.reduceNeg, Int.reduceBEq, Int.reduceBNe, Nat.reduceEqDiff]
        · have q5 : (x.time == 5) = false := by simpa using h5
          simp only [go_sem, Nat.reduceAdd, Nat.reduceMul, Nat.reduceSub, Nat.reduceBEq, Nat.reduceLT, Nat.reduceLeDiff, reduceIte, reduceCtorEq, Int.reduceToNat, Int.reduceLE, Int.reduceLT, Int.reduceNe, Int.reduceMul, Int.reduceAdd, Int.reduceSub, Int.reduceDiv, Int.reduceMod, Int.reduceEq, Int.reduceGE, Int.reduceGT, Int.reduceNeg, Int.reduceBEq, Int.reduceBNe, Nat.reduceEqDiff, q0, q5]
          refine ⟨by simp, by first | omega | (simp; done) | (simp; omega), by first | omega | (simp; done) | (simp; omega), by first | omega | (simp; done) | (simp; omega), by first | omega | (simp; done) | (simp; omega), by omega, by omega, ?_⟩
          rw [e2, e3 ⟨x.no, x.place, x.set, x.time, x.paras⟩]
          refine ainv (fin ⟨x.no, x.place, x.set, x.time, x.paras⟩ hx (fun _ => h5)) (Shift.low 4 (by simp) (by simp) ?_ ?_)
          · have := frozen_scenes (xs ++ [⟨x.no, x.place, x.set, x.time, x.paras⟩])
            simp only [List.take_succ_cons, List.take_zero, List.all_cons, List.all_nil, lowB, flat, cellsOf, lowC, str, Av.frozen, decide_true, List.append_nil, List.cons_append, List.nil_append, low_all this, Nat.reduceLT, Bool.and_self]
          · simp only [wkl, lowV, lowC, Av.get, go_sem, Nat.reduceAdd, Nat.reduceMul, Nat.reduceSub, Nat.reduceBEq, Nat.reduceLT, Nat.reduceLeDiff, reduceIte, reduceCtorEq, Int.reduceToNat, Int.reduceLE, Int.reduceLT, Int.reduceNe, Int.reduceMul, Int.reduceAdd, Int.reduceSub, Int.reduceDiv, Int.reduceMod, Int.reduceEq, Int.reduceGE, Int.reduceGT, Int.reduceNeg, Int.reduceBEq, Int.reduceBNe, Nat.reduceEqDiff]
      · have q0 : ((xs.length : Int) == 0) = false := by
          have : xs.length ≠ 0 := by simpa using h0
          simp; omega
        simp only [go_sem, Nat.reduceAdd, Nat.reduceMul, Nat.reduceSub, Nat.reduceBEq, Nat.reduceLT, Nat.reduceLeDiff, reduceIte, reduceCtorEq, Int.reduceToNat, Int.reduceLE, Int.reduceLT, Int.reduceNe, Int.reduceMul, Int.reduceAdd, Int.reduceSub, Int.reduceDiv, Int.reduceMod, Int.reduceEq, Int.reduceGE, Int.reduceGT, Int.reduceNeg, Int.reduceBEq, Int.reduceBNe, Nat.reduceEqDiff, q0]
        refine ⟨by simp, by first | omega | (simp; done) | (simp; omega), by first | omega | (simp; done) | (simp; omega), by first | omega | (simp; done) | (simp; omega), by first | omega | (simp; done) | (simp; omega), by omega, by omega, ?_⟩
        rw [e2, e3 ⟨x.no, x.place, x.set, x.time, x.paras⟩]
        refine ainv (fin ⟨x.no, x.place, x.set, x.time, x.paras⟩ hx (fun h => (h0 h).elim)) (Shift.low 4 (by simp) (by simp) ?_ ?_)
        · have := frozen_scenes (xs ++ [⟨x.no, x.place, x.set, x.time, x.paras⟩])
          simp only [List.take_succ_cons, List.take_zero, List.all_cons, List.all_nil, lowB, flat, cellsOf, lowC, str, Av.frozen, decide_true, List.append_nil, List.cons_append, List.nil_append, low_all this, Nat.reduceLT, Bool.and_self]
        · simp only [wkl, lowV, lowC, Av.get, go_sem, Nat.reduceAdd, Nat.reduceMul, Nat.reduceSub, Nat.reduceBEq, Nat.reduceLT, Nat.reduceLeDiff, reduceIte, reduceCtorEq, Int.reduceToNat, Int.reduceLE, Int.reduceLT, Int.reduceNe, Int.reduceMul, Int.reduceAdd, Int.reduceSub, Int.reduceDiv, Int.reduceMod, Int.reduceEq, Int.reduceGE, Int.reduceGT, Int.reduceNeg, Int.reduceBEq, Int.reduceBNe, Nat.reduceEqDiff]
    · have di : decide (i < v) = false := by simp; omega
      refine AWp.shift (Shift.frz 3 rfl (frozen_scenes xs)) ?_
      simp only [↓frz_str, frzE, frz, frz1, frzB, List.map_cons, List.map_nil, List.set_cons_succ, List.set_cons_zero, Nat.reduceBEq, cond_true, cond_false, Bool.false_and, Bool.true_and, List.length_map, Nat.zero_add, decide_true, Nat.le_refl, List.drop_zero]
      have : List.take xs.length (List.map scA xs) = List.map scA xs := List.take_of_length_le (by simp)
      simp only [this]
      refine go (N := 33) Tryz.ntmps30 300 ?_
      simp only [go_sem, Nat.reduceAdd, Nat.reduceMul, Nat.reduceSub, Nat.reduceBEq, Nat.reduceLT, Nat.reduceLeDiff, reduceIte, reduceCtorEq, Int.reduceToNat, Int.reduceLE, Int.reduceLT, Int.reduceNe, Int.reduceMul, Int.reduceAdd, Int.reduceSub, Int.reduceDiv, Int.reduceMod, Int.reduceEq, Int.reduceGE, Int.reduceGT, Int.reduceNeg, Int.reduceBEq, Int.reduceBNe, Nat.reduceEqDiff, di]
      exact aretc [.cell 2 37] rfl [_] ⟨by simp only [go_sem, Nat.reduceAdd, Nat.reduceMul, Nat.reduceSub, Nat.reduceBEq, Nat.reduceLT, Nat.reduceLeDiff, reduceIte, reduceCtorEq, Int.reduceToNat, Int.reduceLE, Int.reduceLT, Int.reduceNe, Int.reduceMul, Int.reduceAdd, Int.reduceSub, Int.reduceDiv, Int.reduceMod, Int.reduceEq, Int.reduceGE, Int.reduceGT, Int.reduceNeg, Int.reduceBEq, Int.reduceBNe, Nat.reduceEqDiff, sideIs], trivial⟩ ⟨_, _, rfl, ⟨⟨ti, xs⟩, k', rfl, ⟨hti, by simp only; omega, g6, g7⟩, rfl, g3, by omega⟩, rfl, rfl⟩
end Go.Proofs.YtpjbbpilgfihbaaGreatDoor
/- Checks of scenes and of scripts. Own work of this seat. -/
set_option maxRecDepth 100000
set_option linter.unusedSimpArgs false
set_option linter.unusedVariables false
namespace Go.Proofs.YtpjbbpilgfihbaaGreatDoor
open Go Go.Av Go.RowKit
attribute [local go_sem ↓] br_true br_false dbr_true dbr_false dbri_true dbri_false dbrg_true dbrg_false
attribute [local go_sem] run cont br dbr dx dxc dgrd dyld dres dcall calm fieldPlace? allHas step1 opN grdN resN condN exitN stopN exitIt dOk xop xbin xint xarith xstr xbool xpick xnot xneg xextract xpart xpartOk xindex xfieldF fieldD xnew xbox xalloc xfieldAddr xptrAddIf xindexAddr xloadC xload putCells reElem xstoreB xstore xconv xtext xlen xlen2 xcall xfill xbuild cut rep xbuildSlice xbuildSliceD isRow elemD isU8 ev evs evp Go.Av.put Go.Av.get ofConst yldD yldV notBool_undef args0 cellsOf cond_true cond_false decide_true decide_false decide_eq_true_eq decide_eq_false_iff_not List.getElem?_cons_zero List.getElem?_cons_succ List.getElem?_nil List.getD_cons_zero List.getD_cons_succ List.getD_nil List.set_cons_zero List.set_cons_succ List.length_cons List.length_nil List.cons_append List.nil_append List.append_nil List.all_cons List.all_nil List.map_cons List.map_nil List.take_succ_cons List.take_zero List.drop_succ_cons List.drop_zero Bool.and_true Bool.true_and Bool.and_self Bool.and_false Bool.false_and one Go.Av.frozen beq_self_eq_true true_and and_true forall_const false_implies implies_true and_self Option.map_some Option.map_none Nat.zero_add Nat.add_zero Nat.zero_mul Nat.mul_one Nat.one_mul Int.toNat_zero ne_eq not_false_eq_true not_true_eq_false Bool.true_eq_false Bool.false_eq_true List.toList_toArray inr Go.Av.byteOf isByte decide_eq_decide Bool.not_true Bool.not_false Bool.not_eq_true' Bool.or_true Bool.true_or Bool.or_false Bool.false_or ge_iff_le gt_iff_lt and_assoc Bool.decide_eq_true beq_iff_eq beq_eq_false_iff_ne bne_iff_ne bne_self_eq_false if_true if_false Bool.and_eq_true Bool.or_eq_true Bool.and_eq_false_imp Bool.or_eq_false_iff Bool.not_eq_false' has Option.isSome_some Option.isSome_none Int.toNat_natCast Int.cast_ofNat_Int List.length_append xapp2 xapp xappS xappD xappB notInt srcOf srcB byteAV splice' xcut xcutS xcutF xcutB xcutN xcut0 cutL loOf hiOf evo xmake zelem xmax xcopy2 xcopyS xcopyB xnil xcut3 ixOf xclear2 xclearB List.getElem?_toArray xbin2 xnileq xempty xmkmap xmput xmputB xmputF isKey keyEq mfind xbin3 xeqs xeqop eqFs bothB leafEq xlook xlookB xlookF xbytes beq_c_n beq_n_c bne_c_n bne_n_c one_nil dxi dxic dbri rix dck reader blind opOk refOk Go.Op.operands Go.Call.operands List.contains_cons List.contains_nil dxg dxgc dbrg pck putD List.lookup_cons List.lookup_nil ts2 tb2 zl2 za2 Tryz.underlying2 ts3 tb3 zl3 za3 Tryz.underlying3 ts4 tb4 zl4 za4 Tryz.underlying4 ts5 tb5 zl5 za5 Tryz.underlying5 ts6 tb6 zl6 za6 Tryz.underlying6 ts7 tb7 za7 Tryz.underlying7 ts8 tb8 za8 Tryz.underlying8 ts9 tb9 zl9 za9 Tryz.underlying9 ts10 tb10 zl10 za10 Tryz.underlying10 ts11 tb11 zl11 za11 Tryz.underlying11 ts12 tb12 zl12 za12 Tryz.underlying12 ts13 tb13 za13 Tryz.underlying13 ts14 tb14 za14 Tryz.underlying14 ts18 tb18 za18 Tryz.underlying18 ts19 tb19 za19 Tryz.underlying19 ts21 tb21 zl21 za21 Tryz.underlying21 ts22 tb22 zl22 za22 Tryz.underlying22 ts24 tb24 za24 Tryz.underlying24 ts25 tb25 za25 Tryz.underlying25 ts27 tb27 zl27 za27 Tryz.underlying27 ts35 tb35 zl35 za35 Tryz.underlying35 ts36 tb36 za36 Tryz.underlying36 ts37 tb37 za37 Tryz.underlying37 ts39 tb39 zl39 za39 Tryz.underlying39 ts41 tb41 za41 Tryz.underlying41 ts42 tb42 za42 Tryz.underlying42 ts63 tb63 zl63 za63 Tryz.underlying63 ts64 tb64 zl64 za64 Tryz.underlying64 ts65 tb65 za65 Tryz.underlying65 ts66 tb66 za66 Tryz.underlying66 ts67 tb67 zl67 za67 Tryz.underlying67 ts69 tb69 za69 Tryz.underlying69 ts70 tb70 za70 Tryz.underlying70 ts73 tb73 za73 Tryz.underlying73 ts74 tb74 za74 Tryz.underlying74 ts75 tb75 zl75 za75 Tryz.underlying75 ts82 tb82 zl82 za82 Tryz.underlying82 ts96 tb96 za96 Tryz.underlying96 ts97 tb97 za97 Tryz.underlying97 ts103 tb103 za103 Tryz.underlying103 ts104 tb104 za104 Tryz.underlying104 ts109 tb109 zl109 za109 Tryz.underlying109 ts116 tb116 zl116 za116 Tryz.underlying116 ts117 tb117 za117 Tryz.underlying117 ts118 tb118 za118 Tryz.underlying118 ts120 tb120 zl120 za120 Tryz.underlying120 ts124 tb124 zl124 za124 Tryz.underlying124 ts126 tb126 za126 Tryz.underlying126 ts128 tb128 zl128 za128 Tryz.underlying128 ts130 tb130 za130 Tryz.underlying130 ts131 tb131 za131 Tryz.underlying131 ts153 tb153 zl153 za153 Tryz.underlying153 ts167 tb167 zl167 za167 Tryz.underlying167 ts171 tb171 zl171 za171 Tryz.underlying171 ts177 tb177 zl177 za177 Tryz.underlying177 ts183 tb183 zl183 za183 Tryz.underlying183 ts189 tb189 zl189 za189 Tryz.underlying189 ts191 tb191 zl191 za191 Tryz.underlying191 ts195 tb195 za195 Tryz.underlying195 ts196 tb196 za196 Tryz.underlying196 ts198 tb198 zl198 za198 Tryz.underlying198 ts203 tb203 Tryz.underlying203 ts209 tb209 za209 Tryz.underlying209 ts210 tb210 za210 Tryz.underlying210 ts211 tb211 Tryz.underlying211 ts216 tb216 za216 Tryz.underlying216 ts217 tb217 za217 Tryz.underlying217 ts220 tb220 Tryz.underlying220 ts225 tb225 Tryz.underlying225 ts226 tb226 Tryz.underlying226 ts227 tb227 za227 Tryz.underlying227 ts228 tb228 za228 Tryz.underlying228 ts232 tb232 zl232 za232 Tryz.underlying232 ts233 tb233 zl233 za233 Tryz.underlying233 ts235 tb235 zl235 za235 Tryz.underlying235 ts236 tb236 zl236 za236 Tryz.underlying236 ts237 tb237 za237 Tryz.underlying237 ts238 tb238 za238 Tryz.underlying238

structure SceneOk (x : Sc) : Prop where
  set : isSetL x.set = true
  len : x.set.length < 1000000
  many : x.paras.length < 1000000
  run : ∃ e, runL 0 x.paras = some e ∧ e ≠ 2 ∧ e ≠ 3

set_option maxHeartbeats 1000000 in
theorem sceneFault_pch {S : Std} (hS : LibOk S) (x : Sc) (hx : SceneOk x) : PcH Tryz.prog S 72 [scA x] (· = .int .i64 0) := by
  obtain ⟨e, hr, h2, h3⟩ := hx.run
  have h4 := hx.many
  simp only [scA]
  refine pch_intro (cth_intro Tryz.func72 rfl Tryz.ntmps72 hB72 (by simp) fun h ρ w hg => go (N := 37) Tryz.ntmps72 300 ?_)
  simp only [go_sem, Nat.reduceAdd, Nat.reduceMul, Nat.reduceSub, Nat.reduceBEq, Nat.reduceLT, Nat.reduceLeDiff, reduceIte, reduceCtorEq, Int.reduceToNat, Int.reduceLE, Int.reduceLT, Int.reduceNe, Int.reduceMul, Int.reduceAdd, Int.reduceSub, Int.reduceDiv, Int.reduceMod, Int.reduceEq, Int.reduceGE, Int.reduceGT, Int.reduceNeg, Int.reduceBEq, Int.reduceBNe, Nat.reduceEqDiff]
  refine pcallH1 hg (isSet_pch hS x.set hx.len) rfl (N := 37) Tryz.ntmps72 rfl (go (N := 37) Tryz.ntmps72 300 ?_)
  rw [hx.set]
  simp only [go_sem, Nat.reduceAdd, Nat.reduceMul, Nat.reduceSub, Nat.reduceBEq, Nat.reduceLT, Nat.reduceLeDiff, reduceIte, reduceCtorEq, Int.reduceToNat, Int.reduceLE, Int.reduceLT, Int.reduceNe, Int.reduceMul, Int.reduceAdd, Int.reduceSub, Int.reduceDiv, Int.reduceMod, Int.reduceEq, Int.reduceGE, Int.reduceGT, Int.reduceNeg, Int.reduceBEq, Int.reduceBNe, Nat.reduceEqDiff]
  refine aloop (ι := Nat × Int) (fun y => x.paras.length - y.1)
    (fun y => [(14, .int .i64 y.1), (13, .int .i64 x.paras.length), (12, .fz 2 (x.paras.map paA)), (3, .int .i64 y.2)])
    (fun _ => [.arr 5 [.agg [.str x.no, .int .i64 x.place, .str x.set, .int .i64 x.time, .fz 2 (x.paras.map paA)]]])
    (fun y => y.1 ≤ x.paras.length ∧ runL y.2 (x.paras.drop y.1) = some e) (0, 0) ⟨by simp, hr⟩ ?_ ?_
  · refine Shift.weak ?_
    simp only [wk, go_sem, Nat.reduceAdd, Nat.reduceMul, Nat.reduceSub, Nat.reduceBEq, Nat.reduceLT, Nat.reduceLeDiff, reduceIte, reduceCtorEq, Int.reduceToNat, Int.reduceLE, Int.reduceLT, Int.reduceNe, Int.reduceMul, Int.reduceAdd, Int.reduceSub, Int.reduceDiv, Int.reduceMod, Int.reduceEq, Int.reduceGE, Int.reduceGT, Int.reduceNeg, Int.reduceBEq, Int.reduceBNe, Nat.reduceEqDiff, List.length_map]
  · rintro ⟨i, l⟩ ⟨g1, g2⟩ J hJ
    simp only at g1 g2 hJ ⊢
    by_cases gi : i < x.paras.length
    · have di : decide ((i : Int) < (x.paras.length : Int)) = true := by simp; omega
      have hd : x.paras.drop i = x.paras[i] :: x.paras.drop (i + 1) := List.drop_eq_getElem_cons gi
      rw [hd] at g2
      simp only [runL] at g2
      split at g2
      rotate_left
      · cases g2
      rename_i hp
      simp only [Bool.and_eq_true] at hp
      have hg' : List.getD (List.map paA x.paras) i .any = .agg [.int .i64 x.paras[i].kind, .str x.paras[i].text] := by simp [List.getD, gi, paA]
      have hpf := paraFault_pch hS x.paras[i] hp.1
      simp only [paA] at hpf
      refine go (N := 37) Tryz.ntmps72 300 ?_
      simp only [go_sem, Nat.reduceAdd, Nat.reduceMul, Nat.reduceSub, Nat.reduceBEq, Nat.reduceLT, Nat.reduceLeDiff, reduceIte, reduceCtorEq, Int.reduceToNat, Int.reduceLE, Int.reduceLT, Int.reduceNe, Int.reduceMul, Int.reduceAdd, Int.reduceSub, Int.reduceDiv, Int.reduceMod, Int.reduceEq, Int.reduceGE, Int.reduceGT, Int.reduceNeg, Int.reduceBEq, Int.reduceBNe, Nat.reduceEqDiff, di, hg']
      refine ⟨by omega, by simpa using gi, by simpa using gi, ?_⟩
      refine pcallH1 hg (hpf) rfl (N := 37) Tryz.ntmps72 rfl (go (N := 37) Tryz.ntmps72 300 ?_)
      simp only [go_sem, Nat.reduceAdd, Nat.reduceMul, Nat.reduceSub, Nat.reduceBEq, Nat.reduceLT, Nat.reduceLeDiff, reduceIte, reduceCtorEq, Int.reduceToNat, Int.reduceLE, Int.reduceLT, Int.reduceNe, Int.reduceMul, Int.reduceAdd, Int.reduceSub, Int.reduceDiv, Int.reduceMod, Int.reduceEq, Int.reduceGE, Int.reduceGT, Int.reduceNeg, Int.reduceBEq, Int.reduceBNe, Nat.reduceEqDiff]
      refine pcall1 (follows_pc x.paras[i].kind l) rfl (N := 37) Tryz.ntmps72 rfl (go (N := 37) Tryz.ntmps72 300 ?_)
      rw [hp.2]
      simp only [go_sem, Nat.reduceAdd, Nat.reduceMul, Nat.reduceSub, Nat.reduceBEq, Nat.reduceLT, Nat.reduceLeDiff, reduceIte, reduceCtorEq, Int.reduceToNat, Int.reduceLE, Int.reduceLT, Int.reduceNe, Int.reduceMul, Int.reduceAdd, Int.reduceSub, Int.reduceDiv, Int.reduceMod, Int.reduceEq, Int.reduceGE, Int.reduceGT, Int.reduceNeg, Int.reduceBEq, Int.reduceBNe, Nat.reduceEqDiff]
      refine ⟨by omega, by omega, ?_⟩
      rw [show (i : Int) + 1 = ((i + 1 : Nat) : Int) by omega]
      refine ainv (hJ (i + 1, x.paras[i].kind) ⟨by simp only; omega, g2⟩ (by simp only; omega)) (Shift.low 1 (by simp) (by simp) ?_ ?_)
      · simp only [List.take_succ_cons, List.take_zero, List.all_cons, List.all_nil, lowB, flat, cellsOf, lowC, Av.frozen, List.append_nil, Bool.and_self]
      · simp only [wkl, lowV, lowC, Av.get, go_sem, Nat.reduceAdd, Nat.reduceMul, Nat.reduceSub, Nat.reduceBEq, Nat.reduceLT, Nat.reduceLeDiff, reduceIte, reduceCtorEq, Int.reduceToNat, Int.reduceLE, Int.reduceLT, Int.reduceNe, Int.reduceMul, Int.reduceAdd, Int.reduceSub, Int.reduceDiv, Int.reduceMod, Int.reduceEq, Int.reduceGE, Int.reduceGT, Int.reduceNeg, Int.reduceBEq, Int.reduceBNe, Nat.reduceEqDiff]
    · have di : decide ((i : Int) < (x.paras.length : Int)) = false := by simp; omega
      have : i = x.paras.length := by omega
      subst this
      rw [List.drop_length] at g2
      simp only [runL, Option.some.injEq] at g2
      subst g2
      have q2 : (l == 2) = false := by simpa using h2
      have q3 : (l == 3) = false := by simpa using h3
      refine go (N := 37) Tryz.ntmps72 300 ?_
      simp only [go_sem, Nat.reduceAdd, Nat.reduceMul, Nat.reduceSub, Nat.reduceBEq, Nat.reduceLT, Nat.reduceLeDiff, reduceIte, reduceCtorEq, Int.reduceToNat, Int.reduceLE, Int.reduceLT, Int.reduceNe, Int.reduceMul, Int.reduceAdd, Int.reduceSub, Int.reduceDiv, Int.reduceMod, Int.reduceEq, Int.reduceGE, Int.reduceGT, Int.reduceNeg, Int.reduceBEq, Int.reduceBNe, Nat.reduceEqDiff, di, q2, q3]
      exact aret [2] rfl ⟨rfl, rfl⟩
end Go.Proofs.YtpjbbpilgfihbaaGreatDoor
/- script.Check of right scripts. Own work of this seat. -/
set_option maxRecDepth 100000
set_option linter.unusedSimpArgs false
set_option linter.unusedVariables false
namespace Go.Proofs.YtpjbbpilgfihbaaGreatDoor
open Go Go.Av Go.RowKit
attribute [local go_sem ↓] br_true br_false dbr_true dbr_false dbri_true dbri_false dbrg_true dbrg_false
attribute [local go_sem] run cont br dbr dx dxc dgrd dyld dres dcall calm fieldPlace? allHas step1 opN grdN resN condN exitN stopN exitIt dOk xop xbin xint xarith xstr xbool xpick xnot xneg xextract xpart xpartOk xindex xfieldF fieldD xnew xbox xalloc xfieldAddr xptrAddIf xindexAddr xloadC xload putCells reElem xstoreB xstore xconv xtext xlen xlen2 xcall xfill xbuild cut rep xbuildSlice xbuildSliceD isRow elemD isU8 ev evs evp Go.Av.put Go.Av.get ofConst yldD yldV notBool_undef args0 cellsOf cond_true cond_false decide_true decide_false decide_eq_true_eq decide_eq_false_iff_not List.getElem?_cons_zero List.getElem?_cons_succ List.getElem?_nil List.getD_cons_zero List.getD_cons_succ List.getD_nil List.set_cons_zero List.set_cons_succ List.length_cons List.length_nil List.cons_append List.nil_append List.append_nil List.all_cons List.all_nil List.map_cons List.map_nil List.take_succ_cons List.take_zero List.drop_succ_cons List.drop_zero Bool.and_true Bool.true_and Bool.and_self Bool.and_false Bool.false_and one Go.Av.frozen beq_self_eq_true true_and and_true forall_const false_implies implies_true and_self Option.map_some Option.map_none Nat.zero_add Nat.add_zero Nat.zero_mul Nat.mul_one Nat.one_mul Int.toNat_zero ne_eq not_false_eq_true not_true_eq_false Bool.true_eq_false Bool.false_eq_true List.toList_toArray inr Go.Av.byteOf isByte decide_eq_decide Bool.not_true Bool.not_false Bool.not_eq_true' Bool.or_true Bool.true_or Bool.or_false Bool.false_or ge_iff_le gt_iff_lt and_assoc Bool.decide_eq_true beq_iff_eq beq_eq_false_iff_ne bne_iff_ne bne_self_eq_false if_true if_false Bool.and_eq_true Bool.or_eq_true Bool.and_eq_false_imp Bool.or_eq_false_iff Bool.not_eq_false' has Option.isSome_some Option.isSome_none Int.toNat_natCast Int.cast_ofNat_Int List.length_append xapp2 xapp xappS xappD xappB notInt srcOf srcB byteAV splice' xcut xcutS xcutF xcutB xcutN xcut0 cutL loOf hiOf evo xmake zelem xmax xcopy2 xcopyS xcopyB xnil xcut3 ixOf xclear2 xclearB List.getElem?_toArray xbin2 xnileq xempty xmkmap xmput xmputB xmputF isKey keyEq mfind xbin3 xeqs xeqop eqFs bothB leafEq xlook xlookB xlookF xbytes beq_c_n beq_n_c bne_c_n bne_n_c one_nil dxi dxic dbri rix dck reader blind opOk refOk Go.Op.operands Go.Call.operands List.contains_cons List.contains_nil dxg dxgc dbrg pck putD List.lookup_cons List.lookup_nil ts2 tb2 zl2 za2 Tryz.underlying2 ts3 tb3 zl3 za3 Tryz.underlying3 ts4 tb4 zl4 za4 Tryz.underlying4 ts5 tb5 zl5 za5 Tryz.underlying5 ts6 tb6 zl6 za6 Tryz.underlying6 ts7 tb7 za7 Tryz.underlying7 ts8 tb8 za8 Tryz.underlying8 ts9 tb9 zl9 za9 Tryz.underlying9 ts10 tb10 zl10 za10 Tryz.underlying10 ts11 tb11 zl11 za11 Tryz.underlying11 ts12 tb12 zl12 za12 Tryz.underlying12 ts13 tb13 za13 Tryz.underlying13 ts14 tb14 za14 Tryz.underlying14 ts18 tb18 za18 Tryz.underlying18 ts19 tb19 za19 Tryz.underlying19 ts21 tb21 zl21 za21 Tryz.underlying21 ts22 tb22 zl22 za22 Tryz.underlying22 ts24 tb24 za24 Tryz.underlying24 ts25 tb25 za25 Tryz.underlying25 ts27 tb27 zl27 za27 Tryz.underlying27 ts35 tb35 zl35 za35 Tryz.underlying35 ts36 tb36 za36 Tryz.underlying36 ts37 tb37 za37 Tryz.underlying37 ts39 tb39 zl39 za39 Tryz.underlying39 ts41 tb41 za41 Tryz.underlying41 ts42 tb42 za42 Tryz.underlying42 ts63 tb63 zl63 za63 Tryz.underlying63 ts64 tb64 zl64 za64 Tryz.underlying64 ts65 tb65 za65 Tryz.underlying65 ts66 tb66 za66 Tryz.underlying66 ts67 tb67 zl67 za67 Tryz.underlying67 ts69 tb69 za69 Tryz.underlying69 ts70 tb70 za70 Tryz.underlying70 ts73 tb73 za73 Tryz.underlying73 ts74 tb74 za74 Tryz.underlying74 ts75 tb75 zl75 za75 Tryz.underlying75 ts82 tb82 zl82 za82 Tryz.underlying82 ts96 tb96 za96 Tryz.underlying96 ts97 tb97 za97 Tryz.underlying97 ts103 tb103 za103 Tryz.underlying103 ts104 tb104 za104 Tryz.underlying104 ts109 tb109 zl109 za109 Tryz.underlying109 ts116 tb116 zl116 za116 Tryz.underlying116 ts117 tb117 za117 Tryz.underlying117 ts118 tb118 za118 Tryz.underlying118 ts120 tb120 zl120 za120 Tryz.underlying120 ts124 tb124 zl124 za124 Tryz.underlying124 ts126 tb126 za126 Tryz.underlying126 ts128 tb128 zl128 za128 Tryz.underlying128 ts130 tb130 za130 Tryz.underlying130 ts131 tb131 za131 Tryz.underlying131 ts153 tb153 zl153 za153 Tryz.underlying153 ts167 tb167 zl167 za167 Tryz.underlying167 ts171 tb171 zl171 za171 Tryz.underlying171 ts177 tb177 zl177 za177 Tryz.underlying177 ts183 tb183 zl183 za183 Tryz.underlying183 ts189 tb189 zl189 za189 Tryz.underlying189 ts191 tb191 zl191 za191 Tryz.underlying191 ts195 tb195 za195 Tryz.underlying195 ts196 tb196 za196 Tryz.underlying196 ts198 tb198 zl198 za198 Tryz.underlying198 ts203 tb203 Tryz.underlying203 ts209 tb209 za209 Tryz.underlying209 ts210 tb210 za210 Tryz.underlying210 ts211 tb211 Tryz.underlying211 ts216 tb216 za216 Tryz.underlying216 ts217 tb217 za217 Tryz.underlying217 ts220 tb220 Tryz.underlying220 ts225 tb225 Tryz.underlying225 ts226 tb226 Tryz.underlying226 ts227 tb227 za227 Tryz.underlying227 ts228 tb228 za228 Tryz.underlying228 ts232 tb232 zl232 za232 Tryz.underlying232 ts233 tb233 zl233 za233 Tryz.underlying233 ts235 tb235 zl235 za235 Tryz.underlying235 ts236 tb236 zl236 za236 Tryz.underlying236 ts237 tb237 za237 Tryz.underlying237 ts238 tb238 za238 Tryz.underlying238

def seenM (ks : List (List UInt8)) : List (AV × AV) := ks.map fun k => (.str k, .bool true)
theorem mfind_out {k : List UInt8} : ∀ {ks : List (List UInt8)} {n : Nat}, k ∉ ks → mfind .string (.str k) (seenM ks) n = some none
  | [], n, _ => rfl
  | a :: r, n, h => by
    simp only [List.mem_cons, not_or] at h
    have : (k == a) = false := by simpa using h.1
    simp only [seenM, List.map_cons, mfind, keyEq, this]
    exact mfind_out h.2
theorem mfind_in {k : List UInt8} : ∀ {ks : List (List UInt8)} {n : Nat}, k ∈ ks → ∃ i, mfind .string (.str k) (seenM ks) n = some (some (n + i, .bool true)) ∧ ks[i]? = some k
  | [], n, h => by simp at h
  | a :: r, n, h => by
    by_cases e : k = a
    · subst e
      exact ⟨0, by simp [seenM, mfind, keyEq], rfl⟩
    · have : (k == a) = false := by simpa using e
      obtain ⟨i, h1, h2⟩ := mfind_in (n := n + 1) ((List.mem_cons.1 h).resolve_left e)
      refine ⟨i + 1, ?_, by simpa using h2⟩
      simp only [seenM, List.map_cons, mfind, keyEq, this]
      rw [show n + (i + 1) = n + 1 + i by omega]
      exact h1
def dd (acc : List (List UInt8)) (k : List UInt8) : List (List UInt8) := if k ∈ acc then acc else acc ++ [k]

/-- right scenes, where the numbers 'acc' have come before -/
def okFrom : List (List UInt8) → Bool → List Sc → Prop
  | _, _, [] => True
  | acc, first, x :: r => (x.no = [] ∨ (numberL x.no = true ∧ x.no.length < 1000000 ∧ x.no ∉ acc)) ∧ (1 ≤ x.place ∧ x.place ≤ 3) ∧ (1 ≤ x.time ∧ x.time ≤ 5) ∧ (first = true → x.time ≠ 5) ∧ SceneOk x ∧ okFrom (dd acc x.no) false r

def paraSum (l : List Sc) : Nat := (l.map fun x => x.paras.length).sum
structure ScriptOk (x : Sr) : Prop where
  title : 1 ≤ x.title.length ∧ x.title.length ≤ 60
  plain : plainL x.title = true
  len : x.scenes.length ≤ 300
  many : paraSum x.scenes ≤ 4000
  ok : okFrom [] true x.scenes
theorem paraSum_take (l : List Sc) (i : Nat) (h : i < l.length) : paraSum (l.take (i + 1)) = paraSum (l.take i) + l[i].paras.length := by
  simp only [paraSum, List.take_add_one, List.map_append, List.sum_append]
  simp [h]
theorem paraSum_take_le (l : List Sc) (i : Nat) : paraSum (l.take i) ≤ paraSum l := by
  have : paraSum l = paraSum (l.take i) + paraSum (l.drop i) := by
    simp only [paraSum]
    rw [← List.sum_append, ← List.map_append, List.take_append_drop]
  omega

theorem seen_frozen (ks : List (List UInt8)) : (seenM ks).all (fun x => Av.frozen x.1 && Av.frozen x.2) = true := by
  induction ks with
  | nil => rfl
  | cons a r ih => simp [seenM, Av.frozen]
theorem low_seen (n : Nat) (ks : List (List UInt8)) : lowB n (.mp (seenM ks)) = true := seen_frozen ks
theorem seen_dd {k : List UInt8} {ks : List (List UInt8)} : (∃ i v, mfind .string (.str k) (seenM ks) 0 = some (some (i, v)) ∧ (seenM ks).set i (.str k, .bool true) = seenM (dd ks k)) ∨
    (mfind .string (.str k) (seenM ks) 0 = some none ∧ seenM ks ++ [(.str k, .bool true)] = seenM (dd ks k)) := by
  by_cases h : k ∈ ks
  · left
    obtain ⟨i, h1, h2⟩ := mfind_in (n := 0) h
    refine ⟨0 + i, _, h1, ?_⟩
    have : (seenM ks)[i]? = some (.str k, .bool true) := by simp [seenM, h2]
    rw [Nat.zero_add]
    have hs : (seenM ks).set i (.str k, .bool true) = seenM ks := by
      apply List.ext_getElem?
      intro j
      rw [List.getElem?_set]
      split
      · rename_i hj
        subst hj
        split
        · exact this.symm
        · rename_i hn
          rw [List.getElem?_eq_none (by omega)] at this
          cases this
      · rfl
    rw [hs]
    simp [dd, h]
  · right
    exact ⟨mfind_out h, by simp [dd, h, seenM]⟩

set_option maxHeartbeats 4000000 in
theorem check_pch {S : Std} (hS : LibOk S) (x : Sr) (hx : ScriptOk x) : PcH Tryz.prog S 35 [srA x] (· = .int .i64 0) := by
  obtain ⟨ti, xs⟩ := x
  have t1 := hx.title
  have t2 := hx.plain
  have t3 := hx.len
  have t4 := hx.many
  have t5 := hx.ok
  simp only at t1 t2 t3 t4 t5
  have d1 : decide ((ti.length : Int) < 1) = false := by simp; omega
  have d2 : decide ((ti.length : Int) > 60) = false := by simp; omega
  simp only [srA]
  refine pch_intro (cth_intro Tryz.func35 rfl Tryz.ntmps35 hB35 (by simp) fun h ρ w hg => go (N := 112) Tryz.ntmps35 300 ?_)
  simp only [go_sem, Nat.reduceAdd, Nat.reduceMul, Nat.reduceSub, Nat.reduceBEq, Nat.reduceLT, Nat.reduceLeDiff, reduceIte, reduceCtorEq, Int.reduceToNat, Int.reduceLE, Int.reduceLT, Int.reduceNe, Int.reduceMul, Int.reduceAdd, Int.reduceSub, Int.reduceDiv, Int.reduceMod, Int.reduceEq, Int.reduceGE, Int.reduceGT, Int.reduceNeg, Int.reduceBEq, Int.reduceBNe, Nat.reduceEqDiff, d1, d2]
  refine pcallH1 hg (plain_pch hS ti (by omega)) rfl (N := 112) Tryz.ntmps35 rfl (go (N := 112) Tryz.ntmps35 300 ?_)
  rw [t2]
  simp only [go_sem, Nat.reduceAdd, Nat.reduceMul, Nat.reduceSub, Nat.reduceBEq, Nat.reduceLT, Nat.reduceLeDiff, reduceIte, reduceCtorEq, Int.reduceToNat, Int.reduceLE, Int.reduceLT, Int.reduceNe, Int.reduceMul, Int.reduceAdd, Int.reduceSub, Int.reduceDiv, Int.reduceMod, Int.reduceEq, Int.reduceGE, Int.reduceGT, Int.reduceNeg, Int.reduceBEq, Int.reduceBNe, Nat.reduceEqDiff]
  refine aloop (ι := Nat) (fun i => xs.length - i)
    (fun i => [(29, .int .i64 i), (28, .int .i64 xs.length), (27, .fz 5 (xs.map scA)), (3, .int .i64 (paraSum (xs.take i))), (1, .ptr 0 1 0 0)])
    (fun _ => [.arr 2 [.agg [.str ti, .fz 5 (xs.map scA)]]]) (fun i => i ≤ xs.length) 0 (by simp) ?_ ?_
  · refine Shift.weak ?_
    simp only [wk, go_sem, Nat.reduceAdd, Nat.reduceMul, Nat.reduceSub, Nat.reduceBEq, Nat.reduceLT, Nat.reduceLeDiff, reduceIte, reduceCtorEq, Int.reduceToNat, Int.reduceLE, Int.reduceLT, Int.reduceNe, Int.reduceMul, Int.reduceAdd, Int.reduceSub, Int.reduceDiv, Int.reduceMod, Int.reduceEq, Int.reduceGE, Int.reduceGT, Int.reduceNeg, Int.reduceBEq, Int.reduceBNe, Nat.reduceEqDiff, List.length_map]
    simp [paraSum]
  · intro i g1 J hJ
    by_cases gi : i < xs.length
    · have di : decide ((i : Int) < (xs.length : Int)) = true := by simp; omega
      have hg' : List.getD (List.map scA xs) i .any = .agg [.str xs[i].no, .int .i64 xs[i].place, .str xs[i].set, .int .i64 xs[i].time, .fz 2 (xs[i].paras.map paA)] := by simp [List.getD, gi, scA]
      have hs := paraSum_take xs i gi
      have hle := paraSum_take_le xs (i + 1)
      refine go (N := 112) Tryz.ntmps35 300 ?_
      simp only [go_sem, Nat.reduceAdd, Nat.reduceMul, Nat.reduceSub, Nat.reduceBEq, Nat.reduceLT, Nat.reduceLeDiff, reduceIte, reduceCtorEq, Int.reduceToNat, Int.reduceLE, Int.reduceLT, Int.reduceNe, Int.reduceMul, Int.reduceAdd, Int.reduceSub, Int.reduceDiv, Int.reduceMod, Int.reduceEq, Int.reduceGE, Int.reduceGT, Int.reduceNeg, Int.reduceBEq, Int.reduceBNe, Nat.reduceEqDiff, di, hg', List.length_map]
      repeat refine And.intro (by first | omega | simpa using gi) ?_
      rw [show (paraSum (xs.take i) : Int) + (xs[i].paras.length : Int) = (paraSum (xs.take (i + 1)) : Int) by omega, show (i : Int) + 1 = ((i + 1 : Nat) : Int) by omega]
      refine ainv (hJ (i + 1) (by omega) (by omega)) (Shift.low 1 (by simp) (by simp) ?_ ?_)
      · simp only [List.take_succ_cons, List.take_zero, List.all_cons, List.all_nil, lowB, flat, cellsOf, lowC, Av.frozen, List.append_nil, Bool.and_self]
      · simp only [wkl, lowV, lowC, Av.get, go_sem, Nat.reduceAdd, Nat.reduceMul, Nat.reduceSub, Nat.reduceBEq, Nat.reduceLT, Nat.reduceLeDiff, reduceIte, reduceCtorEq, Int.reduceToNat, Int.reduceLE, Int.reduceLT, Int.reduceNe, Int.reduceMul, Int.reduceAdd, Int.reduceSub, Int.reduceDiv, Int.reduceMod, Int.reduceEq, Int.reduceGE, Int.reduceGT, Int.reduceNeg, Int.reduceBEq, Int.reduceBNe, Nat.reduceEqDiff]
    · have di : decide ((i : Int) < (xs.length : Int)) = false := by simp; omega
      have : i = xs.length := by omega
      subst this
      rw [List.take_length]
      have d3 : decide ((xs.length : Int) > 300) = false := by simp; omega
      have d4 : decide ((paraSum xs : Int) > 4000) = false := by simp; omega
      refine go (N := 112) Tryz.ntmps35 300 ?_
      simp only [go_sem, Nat.reduceAdd, Nat.reduceMul, Nat.reduceSub, Nat.reduceBEq, Nat.reduceLT, Nat.reduceLeDiff, reduceIte, reduceCtorEq, Int.reduceToNat, Int.reduceLE, Int.reduceLT, Int.reduceNe, Int.reduceMul, Int.reduceAdd, Int.reduceSub, Int.reduceDiv, Int.reduceMod, Int.reduceEq, Int.reduceGE, Int.reduceGT, Int.reduceNeg, Int.reduceBEq, Int.reduceBNe, Nat.reduceEqDiff, di, d3, d4, List.length_map]
      refine aloop (ι := Nat × List (List UInt8)) (fun y => xs.length - y.1)
        (fun y => [(51, .int .i64 y.1), (50, .int .i64 xs.length), (49, .fz 5 (xs.map scA)), (6, .mp 1), (1, .ptr 0 1 0 0)])
        (fun y => [.arr 2 [.agg [.str ti, .fz 5 (xs.map scA)]], .mp (seenM y.2)]) (fun y => y.1 ≤ xs.length ∧ okFrom y.2 (decide (y.1 = 0)) (xs.drop y.1)) (0, []) ⟨by simp, t5⟩ ?_ ?_
      · refine Shift.weak ?_
        simp only [wk, go_sem, Nat.reduceAdd, Nat.reduceMul, Nat.reduceSub, Nat.reduceBEq, Nat.reduceLT, Nat.reduceLeDiff, reduceIte, reduceCtorEq, Int.reduceToNat, Int.reduceLE, Int.reduceLT, Int.reduceNe, Int.reduceMul, Int.reduceAdd, Int.reduceSub, Int.reduceDiv, Int.reduceMod, Int.reduceEq, Int.reduceGE, Int.reduceGT, Int.reduceNeg, Int.reduceBEq, Int.reduceBNe, Nat.reduceEqDiff]
      · clear hJ J
        rintro ⟨i, acc⟩ ⟨g1, g2⟩ J hJ
        simp only at g1 g2 hJ ⊢
        by_cases gi : i < xs.length
        · have di : decide ((i : Int) < (xs.length : Int)) = true := by simp; omega
          have hg' : List.getD (List.map scA xs) i .any = .agg [.str xs[i].no, .int .i64 xs[i].place, .str xs[i].set, .int .i64 xs[i].time, .fz 2 (xs[i].paras.map paA)] := by simp [List.getD, gi, scA]
          have hd : xs.drop i = xs[i] :: xs.drop (i + 1) := List.drop_eq_getElem_cons gi
          rw [hd] at g2
          obtain ⟨c1, c2, c3, c4, c5, c6⟩ := g2
          have e1 : decide (xs[i].place < 1) = false := by simp; omega
          have e2 : decide (xs[i].place > 3) = false := by simp; omega
          have e3 : decide (xs[i].time < 1) = false := by simp; omega
          have e4 : decide (xs[i].time > 5) = false := by simp; omega
          have e5 : ((i : Int) == 0) = false ∨ ((i : Int) == 0) = true ∧ (xs[i].time == 5) = false := by
            by_cases h0 : i = 0
            · exact .inr ⟨by simp [h0], by simpa using c4 (by simp [h0])⟩
            · exact .inl (by simp; omega)
          have hsf := sceneFault_pch hS xs[i] c5
          simp only [scA] at hsf
          have nx : decide (i + 1 = 0) = false := by simp
          generalize hsc : xs[i] = sc at *
          have fin : _ := fun h => hJ (i + 1, dd acc sc.no) ⟨by simp only; omega, by simp only; rw [nx]; exact c6⟩ h
          rcases c1 with h0 | ⟨n1, n2, n3⟩
          · have q0 : (sc.no != []) = false := by simp [h0]
            rcases e5 with e5 | ⟨e5, e6⟩
            · rcases @seen_dd sc.no acc with ⟨j, v, m1, m2⟩ | ⟨m1, m2⟩
              · refine go (N := 112) Tryz.ntmps35 300 ?_
                simp only [go_sem, Nat.reduceAdd, Nat.reduceMul, Nat.reduceSub, Nat.reduceBEq, Nat.reduceLT, Nat.reduceLeDiff, reduceIte, reduceCtorEq, Int.reduceToNat, Int.reduceLE, Int.reduceLT, Int.reduceNe, Int.reduceMul, Int.reduceAdd, Int.reduceSub, Int.reduceDiv, Int.reduceMod, Int.reduceEq, Int.reduceGE, Int.reduceGT, Int.reduceNeg, Int.reduceBEq, Int.reduceBNe, Nat.reduceEqDiff, di, hg', q0, e1, e2, e3, e4, e5, m1, m2]
                repeat refine And.intro (by first | omega | simpa using gi) ?_
                refine pcallH1 hg (hsf) rfl (N := 112) Tryz.ntmps35 rfl (go (N := 112) Tryz.ntmps35 300 ?_)
                simp only [go_sem, Nat.reduceAdd, Nat.reduceMul, Nat.reduceSub, Nat.reduceBEq, Nat.reduceLT, Nat.reduceLeDiff, reduceIte, reduceCtorEq, Int.reduceToNat, Int.reduceLE, Int.reduceLT, Int.reduceNe, Int.reduceMul, Int.reduceAdd, Int.reduceSub, Int.reduceDiv, Int.reduceMod, Int.reduceEq, Int.reduceGE, Int.reduceGT, Int.reduceNeg, Int.reduceBEq, Int.reduceBNe, Nat.reduceEqDiff]
                refine ⟨by omega, by omega, ?_⟩
                rw [show (i : Int) + 1 = ((i + 1 : Nat) : Int) by omega]
                refine ainv (fin (by simp only; omega)) (Shift.low 2 (by simp) (by simp) ?_ ?_)
                · simp only [List.take_succ_cons, List.take_zero, List.all_cons, List.all_nil, lowB, flat, cellsOf, lowC, Av.frozen, List.append_nil, Bool.and_self, ↓low_seen]
                · simp only [wkl, lowV, lowC, Av.get, go_sem, Nat.reduceAdd, Nat.reduceMul, Nat.reduceSub, Nat.reduceBEq, Nat.reduceLT, Nat.reduceLeDiff, reduceIte, reduceCtorEq, Int.reduceToNat, Int.reduceLE, Int.reduceLT, Int.reduceNe, Int.reduceMul, Int.reduceAdd, Int.reduceSub, Int.reduceDiv, Int.reduceMod, Int.reduceEq, Int.reduceGE, Int.reduceGT, Int.reduceNeg, Int.reduceBEq, Int.reduceBNe, Nat.reduceEqDiff]
              · refine go (N := 112) Tryz.ntmps35 300 ?_
                simp only [go_sem, Nat.reduceAdd, Nat.reduceMul, Nat.reduceSub, Nat.reduceBEq, Nat.reduceLT, Nat.reduceLeDiff, reduceIte, reduceCtorEq, Int.reduceToNat, Int.reduceLE, Int.reduceLT, Int.reduceNe, Int.reduceMul, Int.reduceAdd, Int.reduceSub, Int.reduceDiv, Int.reduceMod, Int.reduceEq, Int.reduceGE, Int.reduceGT, Int.reduceNeg, Int.reduceBEq, Int.reduceBNe, Nat.reduceEqDiff, di, hg', q0, e1, e2, e3, e4, e5, m1, m2]
                repeat refine And.intro (by first | omega | simpa using gi) ?_
                refine pcallH1 hg (hsf) rfl (N := 112) Tryz.ntmps35 rfl (go (N := 112) Tryz.ntmps35 300 ?_)
                simp only [go_sem, Nat.reduceAdd, Nat.reduceMul, Nat.reduceSub, Nat.reduceBEq, Nat.reduceLT, Nat.reduceLeDiff, reduceIte, reduceCtorEq, Int.reduceToNat, Int.reduceLE, Int.reduceLT, Int.reduceNe, Int.reduceMul, Int.reduceAdd, Int.reduceSub, Int.reduceDiv, Int.reduceMod, Int.reduceEq, Int.reduceGE, Int.reduceGT, Int.reduceNeg, Int.reduceBEq, Int.reduceBNe, Nat.reduceEqDiff]
                refine ⟨by omega, by omega, ?_⟩
                rw [show (i : Int) + 1 = ((i + 1 : Nat) : Int) by omega]
                refine ainv (fin (by simp only; omega)) (Shift.low 2 (by simp) (by simp) ?_ ?_)
                · simp only [List.take_succ_cons, List.take_zero, List.all_cons, List.all_nil, lowB, flat, cellsOf, lowC, Av.frozen, List.append_nil, Bool.and_self, ↓low_seen]
                · simp only [wkl, lowV, lowC, Av.get, go_sem, Nat.reduceAdd, Nat.reduceMul, Nat.reduceSub, Nat.reduceBEq, Nat.reduceLT, Nat.reduceLeDiff, reduceIte, reduceCtorEq, Int.reduceToNat, Int.reduceLE, Int.reduceLT, Int.reduceNe, Int.reduceMul, Int.reduceAdd, Int.reduceSub, Int.reduceDiv, Int.reduceMod, Int.reduceEq, Int.reduceGE, Int.reduceGT, Int.reduceNeg, Int.reduceBEq, Int.reduceBNe, Nat.reduceEqDiff]
            · rcases @seen_dd sc.no acc with ⟨j, v, m1, m2⟩ | ⟨m1, m2⟩
              · refine go (N := 112) Tryz.ntmps35 300 ?_
                simp only [go_sem, Nat.reduceAdd, Nat.reduceMul, Nat.reduceSub, Nat.reduceBEq, Nat.reduceLT, Nat.reduceLeDiff, reduceIte, reduceCtorEq, Int.reduceToNat, Int.reduceLE, Int.reduceLT, Int.reduceNe, Int.reduceMul, Int.reduceAdd, Int.reduceSub, Int.reduceDiv, Int.reduceMod, Int.reduceEq, Int.reduceGE, Int.reduceGT, Int.reduceNeg, Int.reduceBEq, Int.reduceBNe, Nat.reduceEqDiff, di, hg', q0, e1, e2, e3, e4, e5, e6, m1, m2]
                repeat refine And.intro (by first | omega | simpa using gi) ?_
                refine pcallH1 hg (hsf) rfl (N := 112) Tryz.ntmps35 rfl (go (N := 112) Tryz.ntmps35 300 ?_)
                simp only [go_sem, Nat.reduceAdd, Nat.reduceMul, Nat.reduceSub, Nat.reduceBEq, Nat.reduceLT, Nat.reduceLeDiff, reduceIte, reduceCtorEq, Int.reduceToNat, Int.reduceLE, Int.reduceLT, Int.reduceNe, Int.reduceMul, Int.reduceAdd, Int.reduceSub, Int.reduceDiv, Int.reduceMod, Int.reduceEq, Int.reduceGE, Int.reduceGT, Int.reduceNeg, Int.reduceBEq, Int.reduceBNe, Nat.reduceEqDiff]
                refine ⟨by omega, by omega, ?_⟩
                rw [show (i : Int) + 1 = ((i + 1 : Nat) : Int) by omega]
                refine ainv (fin (by simp only; omega)) (Shift.low 2 (by simp) (by simp) ?_ ?_)
                · simp only [List.take_succ_cons, List.take_zero, List.all_cons, List.all_nil, lowB, flat, cellsOf, lowC, Av.frozen, List.append_nil, Bool.and_self, ↓low_seen]
                · simp only [wkl, lowV, lowC, Av.get, go_sem, Nat.reduceAdd, Nat.reduceMul, Nat.reduceSub, Nat.reduceBEq, Nat.reduceLT, Nat.reduceLeDiff, reduceIte, reduceCtorEq, Int.reduceToNat, Int.reduceLE, Int.reduceLT, Int.reduceNe, Int.reduceMul, Int.reduceAdd, Int.reduceSub, Int.reduceDiv, Int.reduceMod, Int.reduceEq, Int.reduceGE, Int.reduceGT, Int.reduceNeg, Int.reduceBEq, Int.reduceBNe, Nat.reduceEqDiff]
              · refine go (N := 112) Tryz.ntmps35 300 ?_
                simp only [go_sem, Nat.reduceAdd, Nat.reduceMul, Nat.reduceSub, Nat.reduceBEq, Nat.reduceLT, Nat.reduceLeDiff, reduceIte, reduceCtorEq, Int.reduceToNat, Int.reduceLE, Int.reduceLT, Int.reduceNe, Int.reduceMul, Int.reduceAdd, Int.reduceSub, Int.reduceDiv, Int.reduceMod, Int.reduceEq, Int.reduceGE, Int.reduceGT, Int.reduceNeg, Int.reduceBEq, Int.reduceBNe, Nat.reduceEqDiff, di, hg', q0, e1, e2, e3, e4, e5, e6, m1, m2]
                repeat refine And.intro (by first | omega | simpa using gi) ?_
                refine pcallH1 hg (hsf) rfl (N := 112) Tryz.ntmps35 rfl (go (N := 112) Tryz.ntmps35 300 ?_)
                simp only [go_sem, Nat.reduceAdd, Nat.reduceMul, Nat.reduceSub, Nat.reduceBEq, Nat.reduceLT, Nat.reduceLeDiff, reduceIte, reduceCtorEq, Int.reduceToNat, Int.reduceLE, Int.reduceLT, Int.reduceNe, Int.reduceMul, Int.reduceAdd, Int.reduceSub, Int.reduceDiv, Int.reduceMod, Int.reduceEq, Int.reduceGE, Int.reduceGT, Int.reduceNeg, Int.reduceBEq, Int.reduceBNe, Nat.reduceEqDiff]
                refine ⟨by omega, by omega, ?_⟩
                rw [show (i : Int) + 1 = ((i + 1 : Nat) : Int) by omega]
                refine ainv (fin (by simp only; omega)) (Shift.low 2 (by simp) (by simp) ?_ ?_)
                · simp only [List.take_succ_cons, List.take_zero, List.all_cons, List.all_nil, lowB, flat, cellsOf, lowC, Av.frozen, List.append_nil, Bool.and_self, ↓low_seen]
                · simp only [wkl, lowV, lowC, Av.get, go_sem, Nat.reduceAdd, Nat.reduceMul, Nat.reduceSub, Nat.reduceBEq, Nat.reduceLT, Nat.reduceLeDiff, reduceIte, reduceCtorEq, Int.reduceToNat, Int.reduceLE, Int.reduceLT, Int.reduceNe, Int.reduceMul, Int.reduceAdd, Int.reduceSub, Int.reduceDiv, Int.reduceMod, Int.reduceEq, Int.reduceGE, Int.reduceGT, Int.reduceNeg, Int.reduceBEq, Int.reduceBNe, Nat.reduceEqDiff]
          · by_cases h0 : sc.no = []
            · rw [h0] at n1
              exact absurd n1 (by decide)
            have q0 : (sc.no != []) = true := by simp [h0]
            have m1 := @mfind_out sc.no acc 0 n3
            have m2 : seenM acc ++ [(.str sc.no, .bool true)] = seenM (dd acc sc.no) := by simp [dd, n3, seenM]
            rcases e5 with e5 | ⟨e5, e6⟩
            · refine go (N := 112) Tryz.ntmps35 300 ?_
              simp only [go_sem, Nat.reduceAdd, Nat.reduceMul, Nat.reduceSub, Nat.reduceBEq, Nat.reduceLT, Nat.reduceLeDiff, reduceIte, reduceCtorEq, Int.reduceToNat, Int.reduceLE, Int.reduceLT, Int.reduceNe, Int.reduceMul, Int.reduceAdd, Int.reduceSub, Int.reduceDiv, Int.reduceMod, Int.reduceEq, Int.reduceGE, Int.reduceGT, Int.reduceNeg, Int.reduceBEq, Int.reduceBNe, Nat.reduceEqDiff, di, hg', q0, e1, e2, e3, e4, e5, m1, m2]
              repeat refine And.intro (by first | omega | simpa using gi) ?_
              refine pcall1 (isNumber_pc' sc.no n2) rfl (N := 112) Tryz.ntmps35 rfl (go (N := 112) Tryz.ntmps35 300 ?_)
              rw [n1]
              simp only [go_sem, Nat.reduceAdd, Nat.reduceMul, Nat.reduceSub, Nat.reduceBEq, Nat.reduceLT, Nat.reduceLeDiff, reduceIte, reduceCtorEq, Int.reduceToNat, Int.reduceLE, Int.reduceLT, Int.reduceNe, Int.reduceMul, Int.reduceAdd, Int.reduceSub, Int.reduceDiv, Int.reduceMod, Int.reduceEq, Int.reduceGE, Int.reduceGT, Int.reduceNeg, Int.reduceBEq, Int.reduceBNe, Nat.reduceEqDiff, di, hg', q0, e1, e2, e3, e4, e5, m1, m2]
              repeat refine And.intro (by first | omega | simpa using gi) ?_
              refine pcallH1 hg (hsf) rfl (N := 112) Tryz.ntmps35 rfl (go (N := 112) Tryz.ntmps35 300 ?_)
              simp only [go_sem, Nat.reduceAdd, Nat.reduceMul, Nat.reduceSub, Nat.reduceBEq, Nat.reduceLT, Nat.reduceLeDiff, reduceIte, reduceCtorEq, Int.reduceToNat, Int.reduceLE, Int.reduceLT, Int.reduceNe, Int.reduceMul, Int.reduceAdd, Int.reduceSub, Int.reduceDiv, Int.reduceMod, Int.reduceEq, Int.reduceGE, Int.reduceGT, Int.reduceNeg, Int.reduceBEq, Int.reduceBNe, Nat.reduceEqDiff]
              refine ⟨by omega, by omega, ?_⟩
              rw [show (i : Int) + 1 = ((i + 1 : Nat) : Int) by omega]
              refine ainv (fin (by simp only; omega)) (Shift.low 2 (by simp) (by simp) ?_ ?_)
              · simp only [List.take_succ_cons, List.take_zero, List.all_cons, List.all_nil, lowB, flat, cellsOf, lowC, Av.frozen, List.append_nil, Bool.and_self, ↓low_seen]
              · simp only [wkl, lowV, lowC, Av.get, go_sem, Nat.reduceAdd, Nat.reduceMul, Nat.reduceSub, Nat.reduceBEq, Nat.reduceLT, Nat.reduceLeDiff, reduceIte, reduceCtorEq, Int.reduceToNat, Int.reduceLE, Int.reduceLT, Int.reduceNe, Int.reduceMul, Int.reduceAdd, Int.reduceSub, Int.reduceDiv, Int.reduceMod, Int.reduceEq, Int.reduceGE, Int.reduceGT, Int.reduceNeg, Int.reduceBEq, Int.reduceBNe, Nat.reduceEqDiff]
            · refine go (N := 112) Tryz.ntmps35 300 ?_
              simp only [go_sem, Nat.reduceAdd, Nat.reduceMul, Nat.reduceSub, Nat.reduceBEq, Nat.reduceLT, Nat.reduceLeDiff, reduceIte, reduceCtorEq, Int.reduceToNat, Int.reduceLE, Int.reduceLT, Int.reduceNe, Int.reduceMul, Int.reduceAdd, Int.reduceSub, Int.reduceDiv, Int.reduceMod, Int.reduceEq, Int.reduceGE, Int.reduceGT, Int.reduceNeg, Int.reduceBEq, Int.reduceBNe, Nat.reduceEqDiff, di, hg', q0, e1, e2, e3, e4, e5, e6, m1, m2]
              repeat refine And.intro (by first | omega | simpa using gi) ?_
              refine pcall1 (isNumber_pc' sc.no n2) rfl (N := 112) Tryz.ntmps35 rfl (go (N := 112) Tryz.ntmps35 300 ?_)
              rw [n1]
              simp only [go_sem, Nat.reduceAdd, Nat.reduceMul, Nat.reduceSub, Nat.reduceBEq, Nat.reduceLT, Nat.reduceLeDiff, reduceIte, reduceCtorEq, Int.reduceToNat, Int.reduceLE, Int.reduceLT, Int.reduceNe, Int.reduceMul, Int.reduceAdd, Int.reduceSub, Int.reduceDiv, Int.reduceMod, Int.reduceEq, Int.reduceGE, Int.reduceGT, Int.reduceNeg, Int.reduceBEq, Int.reduceBNe, Nat.reduceEqDiff, di, hg', q0, e1, e2, e3, e4, e5, e6, m1, m2]
              repeat refine And.intro (by first | omega | simpa using gi) ?_
              refine pcallH1 hg (hsf) rfl (N := 112) Tryz.ntmps35 rfl (go (N := 112) Tryz.ntmps35 300 ?_)
              simp only [go_sem, Nat.reduceAdd, Nat.reduceMul, Nat.reduceSub, Nat.reduceBEq, Nat.reduceLT, Nat.reduceLeDiff, reduceIte, reduceCtorEq, Int.reduceToNat, Int.reduceLE, Int.reduceLT, Int.reduceNe, Int.reduceMul, Int.reduceAdd, Int.reduceSub, Int.reduceDiv, Int.reduceMod, Int.reduceEq, Int.reduceGE, Int.reduceGT, Int.reduceNeg, Int.reduceBEq, Int.reduceBNe, Nat.reduceEqDiff]
              refine ⟨by omega, by omega, ?_⟩
              rw [show (i : Int) + 1 = ((i + 1 : Nat) : Int) by omega]
              refine ainv (fin (by simp only; omega)) (Shift.low 2 (by simp) (by simp) ?_ ?_)
              · simp only [List.take_succ_cons, List.take_zero, List.all_cons, List.all_nil, lowB, flat, cellsOf, lowC, Av.frozen, List.append_nil, Bool.and_self, ↓low_seen]
              · simp only [wkl, lowV, lowC, Av.get, go_sem, Nat.reduceAdd, Nat.reduceMul, Nat.reduceSub, Nat.reduceBEq, Nat.reduceLT, Nat.reduceLeDiff, reduceIte, reduceCtorEq, Int.reduceToNat, Int.reduceLE, Int.reduceLT, Int.reduceNe, Int.reduceMul, Int.reduceAdd, Int.reduceSub, Int.reduceDiv, Int.reduceMod, Int.reduceEq, Int.reduceGE, Int.reduceGT, Int.reduceNeg, Int.reduceBEq, Int.reduceBNe, Nat.reduceEqDiff]
        · have di : decide ((i : Int) < (xs.length : Int)) = false := by simp; omega
          refine go (N := 112) Tryz.ntmps35 300 ?_
          simp only [go_sem, Nat.reduceAdd, Nat.reduceMul, Nat.reduceSub, Nat.reduceBEq, Nat.reduceLT, Nat.reduceLeDiff, reduceIte, reduceCtorEq, Int.reduceToNat, Int.reduceLE, Int.reduceLT, Int.reduceNe, Int.reduceMul, Int.reduceAdd, Int.reduceSub, Int.reduceDiv, Int.reduceMod, Int.reduceEq, Int.reduceGE, Int.reduceGT, Int.reduceNeg, Int.reduceBEq, Int.reduceBNe, Nat.reduceEqDiff, di]
          exact aret [2] rfl ⟨rfl, rfl⟩
end Go.Proofs.YtpjbbpilgfihbaaGreatDoor
/- Sides. Own work of this seat. -/
set_option maxRecDepth 100000
set_option linter.unusedSimpArgs false
set_option linter.unusedVariables false
namespace Go.Proofs.YtpjbbpilgfihbaaGreatDoor
open Go Go.Av Go.RowKit
attribute [local go_sem ↓] br_true br_false dbr_true dbr_false dbri_true dbri_false dbrg_true dbrg_false
attribute [local go_sem] run cont br dbr dx dxc dgrd dyld dres dcall calm fieldPlace? allHas step1 opN grdN resN condN exitN stopN exitIt dOk xop xbin xint xarith xstr xbool xpick xnot xneg xextract xpart xpartOk xindex xfieldF fieldD xnew xbox xalloc xfieldAddr xptrAddIf xindexAddr xloadC xload putCells reElem xstoreB xstore xconv xtext xlen xlen2 xcall xfill xbuild cut rep xbuildSlice xbuildSliceD isRow elemD isU8 ev evs evp Go.Av.put Go.Av.get ofConst yldD yldV notBool_undef args0 cellsOf cond_true cond_false decide_true decide_false decide_eq_true_eq decide_eq_false_iff_not List.getElem?_cons_zero List.getElem?_cons_succ List.getElem?_nil List.getD_cons_zero List.getD_cons_succ List.getD_nil List.set_cons_zero List.set_cons_succ List.length_cons List.length_nil List.cons_append List.nil_append List.append_nil List.all_cons List.all_nil List.map_cons List.map_nil List.take_succ_cons List.take_zero List.drop_succ_cons List.drop_zero Bool.and_true Bool.true_and Bool.and_self Bool.and_false Bool.false_and one Go.Av.frozen beq_self_eq_true true_and and_true forall_const false_implies implies_true and_self Option.map_some Option.map_none Nat.zero_add Nat.add_zero Nat.zero_mul Nat.mul_one Nat.one_mul Int.toNat_zero ne_eq not_false_eq_true not_true_eq_false Bool.true_eq_false Bool.false_eq_true List.toList_toArray inr Go.Av.byteOf isByte decide_eq_decide Bool.not_true Bool.not_false Bool.not_eq_true' Bool.or_true Bool.true_or Bool.or_false Bool.false_or ge_iff_le gt_iff_lt and_assoc Bool.decide_eq_true beq_iff_eq beq_eq_false_iff_ne bne_iff_ne bne_self_eq_false if_true if_false Bool.and_eq_true Bool.or_eq_true Bool.and_eq_false_imp Bool.or_eq_false_iff Bool.not_eq_false' has Option.isSome_some Option.isSome_none Int.toNat_natCast Int.cast_ofNat_Int List.length_append xapp2 xapp xappS xappD xappB notInt srcOf srcB byteAV splice' xcut xcutS xcutF xcutB xcutN xcut0 cutL loOf hiOf evo xmake zelem xmax xcopy2 xcopyS xcopyB xnil xcut3 ixOf xclear2 xclearB List.getElem?_toArray xbin2 xnileq xempty xmkmap xmput xmputB xmputF isKey keyEq mfind xbin3 xeqs xeqop eqFs bothB leafEq xlook xlookB xlookF xbytes beq_c_n beq_n_c bne_c_n bne_n_c one_nil dxi dxic dbri rix dck reader blind opOk refOk Go.Op.operands Go.Call.operands List.contains_cons List.contains_nil dxg dxgc dbrg pck putD List.lookup_cons List.lookup_nil ts2 tb2 zl2 za2 Tryz.underlying2 ts3 tb3 zl3 za3 Tryz.underlying3 ts4 tb4 zl4 za4 Tryz.underlying4 ts5 tb5 zl5 za5 Tryz.underlying5 ts6 tb6 zl6 za6 Tryz.underlying6 ts7 tb7 za7 Tryz.underlying7 ts8 tb8 za8 Tryz.underlying8 ts9 tb9 zl9 za9 Tryz.underlying9 ts10 tb10 zl10 za10 Tryz.underlying10 ts11 tb11 zl11 za11 Tryz.underlying11 ts12 tb12 zl12 za12 Tryz.underlying12 ts13 tb13 za13 Tryz.underlying13 ts14 tb14 za14 Tryz.underlying14 ts18 tb18 za18 Tryz.underlying18 ts19 tb19 za19 Tryz.underlying19 ts21 tb21 zl21 za21 Tryz.underlying21 ts22 tb22 zl22 za22 Tryz.underlying22 ts24 tb24 za24 Tryz.underlying24 ts25 tb25 za25 Tryz.underlying25 ts27 tb27 zl27 za27 Tryz.underlying27 ts35 tb35 zl35 za35 Tryz.underlying35 ts36 tb36 za36 Tryz.underlying36 ts37 tb37 za37 Tryz.underlying37 ts39 tb39 zl39 za39 Tryz.underlying39 ts41 tb41 za41 Tryz.underlying41 ts42 tb42 za42 Tryz.underlying42 ts63 tb63 zl63 za63 Tryz.underlying63 ts64 tb64 zl64 za64 Tryz.underlying64 ts65 tb65 za65 Tryz.underlying65 ts66 tb66 za66 Tryz.underlying66 ts67 tb67 zl67 za67 Tryz.underlying67 ts69 tb69 za69 Tryz.underlying69 ts70 tb70 za70 Tryz.underlying70 ts73 tb73 za73 Tryz.underlying73 ts74 tb74 za74 Tryz.underlying74 ts75 tb75 zl75 za75 Tryz.underlying75 ts82 tb82 zl82 za82 Tryz.underlying82 ts96 tb96 za96 Tryz.underlying96 ts97 tb97 za97 Tryz.underlying97 ts103 tb103 za103 Tryz.underlying103 ts104 tb104 za104 Tryz.underlying104 ts109 tb109 zl109 za109 Tryz.underlying109 ts116 tb116 zl116 za116 Tryz.underlying116 ts117 tb117 za117 Tryz.underlying117 ts118 tb118 za118 Tryz.underlying118 ts120 tb120 zl120 za120 Tryz.underlying120 ts124 tb124 zl124 za124 Tryz.underlying124 ts126 tb126 za126 Tryz.underlying126 ts128 tb128 zl128 za128 Tryz.underlying128 ts130 tb130 za130 Tryz.underlying130 ts131 tb131 za131 Tryz.underlying131 ts153 tb153 zl153 za153 Tryz.underlying153 ts167 tb167 zl167 za167 Tryz.underlying167 ts171 tb171 zl171 za171 Tryz.underlying171 ts177 tb177 zl177 za177 Tryz.underlying177 ts183 tb183 zl183 za183 Tryz.underlying183 ts189 tb189 zl189 za189 Tryz.underlying189 ts191 tb191 zl191 za191 Tryz.underlying191 ts195 tb195 za195 Tryz.underlying195 ts196 tb196 za196 Tryz.underlying196 ts198 tb198 zl198 za198 Tryz.underlying198 ts203 tb203 Tryz.underlying203 ts209 tb209 za209 Tryz.underlying209 ts210 tb210 za210 Tryz.underlying210 ts211 tb211 Tryz.underlying211 ts216 tb216 za216 Tryz.underlying216 ts217 tb217 za217 Tryz.underlying217 ts220 tb220 Tryz.underlying220 ts225 tb225 Tryz.underlying225 ts226 tb226 Tryz.underlying226 ts227 tb227 za227 Tryz.underlying227 ts228 tb228 za228 Tryz.underlying228 ts232 tb232 zl232 za232 Tryz.underlying232 ts233 tb233 zl233 za233 Tryz.underlying233 ts235 tb235 zl235 za235 Tryz.underlying235 ts236 tb236 zl236 za236 Tryz.underlying236 ts237 tb237 za237 Tryz.underlying237 ts238 tb238 za238 Tryz.underlying238

theorem run_all : ∀ (ps : List Pa) (l e : Int), runL l ps = some e → ∀ p ∈ ps, paraOk p = true
  | [], _, _, _, p, hp => by simp at hp
  | a :: r, l, e, h, p, hp => by
    simp only [runL] at h
    split at h
    · rename_i hc
      simp only [Bool.and_eq_true] at hc
      rcases List.mem_cons.1 hp with rfl | hp
      · exact hc.1
      · exact run_all r _ _ h p hp
    · cases h
theorem run_head {ps : List Pa} {e : Int} (h : runL 0 ps = some e) : ∀ p, ps.head? = some p → joins p = false := by
  intro p hp
  cases ps with
  | nil => simp at hp
  | cons a r =>
    simp only [List.head?_cons, Option.some.injEq] at hp
    subst hp
    simp only [runL] at h
    split at h
    · rename_i hc
      simp only [Bool.and_eq_true, followsL] at hc
      simp only [joins, Bool.or_eq_false_iff]
      have hc2 := hc.2
      constructor
      · cases q : a.kind == 3 with
        | false => rfl
        | true => rw [q] at hc2; simp at hc2
      · cases q : a.kind == 4 with
        | false => rfl
        | true =>
          cases q3 : a.kind == 3 with
          | true => rw [q3] at hc2; simp at hc2
          | false => rw [q3, q] at hc2; simp at hc2
    · cases h
theorem para_len {p : Pa} (h : paraOk p = true) : p.text.length ≤ 2000 := by
  simp only [paraOk, Bool.and_eq_true, decide_eq_true_eq] at h
  exact h.2.2.2.2.1
theorem sum_ge : ∀ (l : List Sc) (x : Sc), x ∈ l → x.paras.length ≤ paraSum l
  | [], x, h => by simp at h
  | a :: r, x, h => by
    simp only [paraSum, List.map_cons, List.sum_cons]
    rcases List.mem_cons.1 h with rfl | h
    · omega
    · have := sum_ge r x h
      simp only [paraSum] at this
      omega

def x0 : Sc := ⟨[], 0, [], 0, []⟩
end Go.Proofs.YtpjbbpilgfihbaaGreatDoor
/- Groups of paragraphs as lists: plain law. Own work of this seat. -/
set_option maxRecDepth 100000
set_option linter.unusedSimpArgs false
set_option linter.unusedVariables false
namespace Go.Proofs.YtpjbbpilgfihbaaGreatDoor
open Go Go.Av Go.RowKit

def chunksFrom (cur : List Pa) : List Pa → List (List Pa)
  | [] => [cur]
  | p :: r => if joins p then chunksFrom (cur ++ [p]) r else cur :: chunksFrom [p] r
def chunks : List Pa → List (List Pa)
  | [] => []
  | p :: r => chunksFrom [p] r

theorem cut_one {ps : List Pa} {i : Nat} (h : i < ps.length) : cutP ps (i, i + 1) = [ps[i]] := by
  rw [cutP, List.take_succ_eq_append_getElem h, List.drop_append_of_le_length (by simp; omega)]
  simp
theorem cut_more {ps : List Pa} {a i : Nat} (ha : a ≤ i) (h : i < ps.length) : cutP ps (a, i + 1) = cutP ps (a, i) ++ [ps[i]] := by
  simp only [cutP]
  rw [List.take_succ_eq_append_getElem h, List.drop_append_of_le_length (by simp; omega)]
theorem gfold_cut (ps : List Pa) : ∀ (rest : List Pa) (i a : Nat) (init : List (Nat × Nat)), a ≤ i → ps.drop i = rest →
    (gfold (init ++ [(a, i)]) i rest).map (cutP ps) = init.map (cutP ps) ++ chunksFrom (cutP ps (a, i)) rest
  | [], i, a, init, ha, hr => by simp [gfold, chunksFrom]
  | p :: r, i, a, init, ha, hr => by
    have hi : i < ps.length := by
      rcases Nat.lt_or_ge i ps.length with h | h
      · exact h
      · rw [List.drop_of_length_le h] at hr; cases hr
    have hd := List.drop_eq_getElem_cons hi
    rw [hr] at hd
    simp only [List.cons.injEq] at hd
    obtain ⟨hp, hr'⟩ := hd
    cases hj : joins p with
    | true =>
      have hg : gstep (init ++ [(a, i)]) i p = init ++ [(a, i + 1)] := by
        simp [gstep, hj, List.set_append, List.getD]
      rw [gfold, hg, gfold_cut ps r (i + 1) a init (by omega) hr'.symm, chunksFrom, if_pos hj, cut_more ha hi, hp]
    | false =>
      have hg : gstep (init ++ [(a, i)]) i p = (init ++ [(a, i)]) ++ [(i, i + 1)] := by simp [gstep, hj]
      rw [gfold, hg, gfold_cut ps r (i + 1) i (init ++ [(a, i)]) (by omega) hr'.symm, chunksFrom, hj, cut_one hi, hp]
      simp
theorem groups_cut (ps : List Pa) (h0 : ∀ p, ps.head? = some p → joins p = false) : (groupsL ps).map (cutP ps) = chunks ps := by
  cases ps with
  | nil => rfl
  | cons p r =>
    have hj := h0 p rfl
    have hg : gstep [] 0 p = [] ++ [(0, 1)] := by simp [gstep, hj]
    rw [groupsL, gfold, hg, gfold_cut (p :: r) r 1 0 [] (by omega) rfl]
    rfl

def hdP (c : List Pa) : Pa := c.head?.getD pNo
def ownC (name : List UInt8) (ws : List (List UInt8)) (c : List Pa) (nxt : Option (List Pa)) : Bool :=
  isCue (hdP c) name || (((hdP c).kind == 2 && (match nxt with | some d => isCue (hdP d) name | none => false)) ||
    ((hdP c).kind != 2 && (decide (0 < ws.length) && decide (0 < (foundL (wordsL (hdP c).text) ws).length))))
def partC (name : List UInt8) (ws : List (List UInt8)) : List (List Pa) → List Pa
  | [] => []
  | c :: r => (if ownC name ws c r.head? then c else []) ++ partC name ws r
theorem hd_cut {ps : List Pa} {g : Nat × Nat} (h : g.1 < g.2 ∧ g.2 ≤ ps.length) : hdP (cutP ps g) = ps.getD g.1 pNo := by
  have h1 : g.1 < ps.length := by omega
  simp [hdP, cutP, List.head?_drop, List.getElem?_take, h.1, List.getD]
theorem own_cut {ps : List Pa} {gs : List (Nat × Nat)} (hgo : ∀ g ∈ gs, g.1 < g.2 ∧ g.2 ≤ ps.length) (name : List UInt8) (ws : List (List UInt8)) {k : Nat} (hk : k < gs.length) :
    ownB ps name ws gs k = ownC name ws (cutP ps gs[k]) ((gs.map (cutP ps)).drop (k + 1)).head? := by
  have h1 : headP ps gs k = hdP (cutP ps gs[k]) := by
    rw [hd_cut (hgo _ (List.getElem_mem hk)), headP]
    simp [List.getD, hk]
  unfold ownB ownC
  rw [h1, List.head?_drop, List.getElem?_map]
  by_cases hk1 : k + 1 < gs.length
  · have h2 : headP ps gs (k + 1) = hdP (cutP ps gs[k + 1]) := by
      rw [hd_cut (hgo _ (List.getElem_mem hk1)), headP]
      simp [List.getD, hk1]
    rw [h2, List.getElem?_eq_getElem hk1]
    simp [hk1]
  · rw [List.getElem?_eq_none (by omega)]
    simp [hk1]
theorem part_from {ps : List Pa} {gs : List (Nat × Nat)} (hgo : ∀ g ∈ gs, g.1 < g.2 ∧ g.2 ≤ ps.length) (name : List UInt8) (ws : List (List UInt8)) : ∀ (d k : Nat), k + d = gs.length →
    partTo ps name ws gs gs.length = partTo ps name ws gs k ++ partC name ws ((gs.map (cutP ps)).drop k)
  | 0, k, h => by
    have : k = gs.length := by omega
    subst this
    rw [List.drop_of_length_le (by simp)]
    simp [partC]
  | d + 1, k, h => by
    have hk : k < gs.length := by omega
    have hk' : k < (gs.map (cutP ps)).length := by simpa using hk
    rw [part_from hgo name ws d (k + 1) (by omega), List.drop_eq_getElem_cons hk', partC, partTo, own_cut hgo name ws hk]
    simp [List.getD, hk]
theorem part_chunks (ps : List Pa) (name : List UInt8) (h0 : ∀ p, ps.head? = some p → joins p = false) : partL ps name = partC name (wordsL name) (chunks ps) := by
  rw [partL, part_from (groups_ok ps) name (wordsL name) (groupsL ps).length 0 (by omega), groups_cut ps h0]
  simp [partTo]

def keepC (name : List UInt8) (ws : List (List UInt8)) : List (List Pa) → List (List Pa)
  | [] => []
  | c :: r => if ownC name ws c r.head? then c :: keepC name ws r else keepC name ws r
theorem partC_flat (name : List UInt8) (ws : List (List UInt8)) : ∀ cs, partC name ws cs = (keepC name ws cs).flatten
  | [] => rfl
  | c :: r => by
    rw [partC, keepC, partC_flat name ws r]
    split <;> simp
/-- a chunk: it begins with what does not join, all else joins -/
def WfC : List Pa → Prop
  | [] => False
  | p :: r => joins p = false ∧ ∀ q ∈ r, joins q = true
theorem chunksFrom_wf : ∀ (ps cur : List Pa), WfC cur → ∀ c ∈ chunksFrom cur ps, WfC c
  | [], cur, h, c, hc => by
    simp only [chunksFrom, List.mem_singleton] at hc
    subst hc; exact h
  | p :: r, cur, h, c, hc => by
    rw [chunksFrom] at hc
    split at hc
    · rename_i hj
      refine chunksFrom_wf r (cur ++ [p]) ?_ c hc
      cases cur with
      | nil => exact h.elim
      | cons a t => exact ⟨h.1, fun q hq => by
          rcases List.mem_append.1 hq with hq | hq
          · exact h.2 q hq
          · rw [List.mem_singleton.1 hq]; exact hj⟩
    · rename_i hj
      rcases List.mem_cons.1 hc with rfl | hc
      · exact h
      · exact chunksFrom_wf r [p] ⟨by simpa using hj, by simp⟩ c hc
theorem chunks_wf (ps : List Pa) (h0 : ∀ p, ps.head? = some p → joins p = false) : ∀ c ∈ chunks ps, WfC c := by
  cases ps with
  | nil => intro c hc; simp [chunks] at hc
  | cons p r => exact chunksFrom_wf r [p] ⟨h0 p rfl, by simp⟩
theorem keep_sub (name : List UInt8) (ws : List (List UInt8)) : ∀ cs, ∀ c ∈ keepC name ws cs, c ∈ cs
  | [], c, h => by simp [keepC] at h
  | d :: r, c, h => by
    rw [keepC] at h
    split at h
    · rcases List.mem_cons.1 h with rfl | h
      · simp
      · exact List.mem_cons_of_mem _ (keep_sub name ws r c h)
    · exact List.mem_cons_of_mem _ (keep_sub name ws r c h)
end Go.Proofs.YtpjbbpilgfihbaaGreatDoor
/- Parts run: plain law. Own work of this seat. -/
set_option maxRecDepth 100000
set_option linter.unusedSimpArgs false
set_option linter.unusedVariables false
namespace Go.Proofs.YtpjbbpilgfihbaaGreatDoor
open Go Go.Av Go.RowKit

theorem runL_split : ∀ (a b : List Pa) (l e : Int), runL l (a ++ b) = some e → ∃ m, runL l a = some m ∧ runL m b = some e
  | [], b, l, e, h => ⟨l, rfl, h⟩
  | p :: a, b, l, e, h => by
    simp only [List.cons_append, runL] at h
    split at h
    · rename_i hc
      obtain ⟨m, h1, h2⟩ := runL_split a b _ e h
      exact ⟨m, by simp only [runL, if_pos hc]; exact h1, h2⟩
    · cases h
def Free (c : List Pa) : Prop := ∀ l, l ≠ 2 → l ≠ 3 → ∃ e, runL l c = some e ∧ e ≠ 2 ∧ e ≠ 3
theorem join_no {q : Pa} (h : joins q = false) : q.kind ≠ 3 ∧ q.kind ≠ 4 := by
  simpa [joins] using h
theorem follow_no {q : Pa} {m : Int} (h : joins q = false) (hf : followsL q.kind m = true) : m ≠ 2 ∧ m ≠ 3 := by
  obtain ⟨h3, h4⟩ := join_no h
  simpa [followsL, h3, h4] using hf
theorem free_of {c : List Pa} (hw : WfC c) {l m : Int} (h : runL l c = some m) (h2 : m ≠ 2) (h3 : m ≠ 3) : Free c := by
  cases c with
  | nil => exact hw.elim
  | cons p t =>
    intro l' a b
    simp only [runL] at h ⊢
    split at h
    · rename_i hc
      simp only [Bool.and_eq_true] at hc
      obtain ⟨k3, k4⟩ := join_no hw.1
      rw [if_pos (by simp [hc.1, follows_free k3 k4 a b])]
      exact ⟨m, h, h2, h3⟩
    · cases h
theorem free_all : ∀ (cs : List (List Pa)) (l e : Int), (∀ c ∈ cs, WfC c) → runL l cs.flatten = some e → e ≠ 2 → e ≠ 3 → ∀ c ∈ cs, Free c
  | [], _, _, _, _, _, _, c, hc => by simp at hc
  | d :: r, l, e, hw, h, h2, h3, c, hc => by
    rw [List.flatten_cons] at h
    obtain ⟨m, h4, h5⟩ := runL_split _ _ _ _ h
    have hm : m ≠ 2 ∧ m ≠ 3 := by
      cases r with
      | nil =>
        simp only [List.flatten_nil, runL, Option.some.injEq] at h5
        subst h5; exact ⟨h2, h3⟩
      | cons f r =>
        have hf := hw f (by simp)
        cases f with
        | nil => exact hf.elim
        | cons q t =>
          rw [List.flatten_cons, List.cons_append] at h5
          simp only [runL] at h5
          split at h5
          · rename_i hc
            simp only [Bool.and_eq_true] at hc
            exact follow_no hf.1 hc.2
          · cases h5
    rcases List.mem_cons.1 hc with rfl | hc
    · exact free_of (hw c (by simp)) h4 hm.1 hm.2
    · exact free_all r m e (fun x hx => hw x (by simp [hx])) h5 h2 h3 c hc
theorem free_run : ∀ (cs : List (List Pa)) (l : Int), (∀ c ∈ cs, Free c) → l ≠ 2 → l ≠ 3 → ∃ e, runL l cs.flatten = some e ∧ e ≠ 2 ∧ e ≠ 3
  | [], l, _, a, b => ⟨l, rfl, a, b⟩
  | c :: r, l, h, a, b => by
    obtain ⟨m, h1, h2, h3⟩ := h c (by simp) l a b
    obtain ⟨e, h4, h5⟩ := free_run r m (fun x hx => h x (by simp [hx])) h2 h3
    exact ⟨e, by rw [List.flatten_cons, runL_append _ _ _ _ h1]; exact h4, h5⟩
theorem chunksFrom_all : ∀ (ps cur : List Pa), (chunksFrom cur ps).flatten = cur ++ ps
  | [], cur => by simp [chunksFrom]
  | p :: r, cur => by
    rw [chunksFrom]
    split
    · rw [chunksFrom_all r (cur ++ [p])]; simp
    · rw [List.flatten_cons, chunksFrom_all r [p]]; simp
theorem chunks_all (ps : List Pa) : (chunks ps).flatten = ps := by
  cases ps with
  | nil => rfl
  | cons p r => exact chunksFrom_all r [p]
/-- a part of right paragraphs is right -/
theorem part_run {ps : List Pa} {e : Int} (name : List UInt8) (h : runL 0 ps = some e) (h2 : e ≠ 2) (h3 : e ≠ 3) : ∃ e', runL 0 (partL ps name) = some e' ∧ e' ≠ 2 ∧ e' ≠ 3 := by
  have h0 := run_head h
  have hw := chunks_wf ps h0
  have hf := free_all (chunks ps) 0 e hw (by rw [chunks_all]; exact h) h2 h3
  rw [part_chunks ps name h0, partC_flat]
  exact free_run _ 0 (fun c hc => hf c (keep_sub name _ _ c hc)) (by decide) (by decide)

end Go.Proofs.YtpjbbpilgfihbaaGreatDoor
/- The blocks of a scene. Own work of this seat. -/
set_option maxRecDepth 100000
set_option linter.unusedSimpArgs false
set_option linter.unusedVariables false
namespace Go.Proofs.YtpjbbpilgfihbaaGreatDoor
open Go Go.Av Go.RowKit
attribute [local go_sem ↓] br_true br_false dbr_true dbr_false dbri_true dbri_false dbrg_true dbrg_false
attribute [local go_sem] run cont br dbr dx dxc dgrd dyld dres dcall calm fieldPlace? allHas step1 opN grdN resN condN exitN stopN exitIt dOk xop xbin xint xarith xstr xbool xpick xnot xneg xextract xpart xpartOk xindex xfieldF fieldD xnew xbox xalloc xfieldAddr xptrAddIf xindexAddr xloadC xload putCells reElem xstoreB xstore xconv xtext xlen xlen2 xcall xfill xbuild cut rep xbuildSlice xbuildSliceD isRow elemD isU8 ev evs evp Go.Av.put Go.Av.get ofConst yldD yldV notBool_undef args0 cellsOf cond_true cond_false decide_true decide_false decide_eq_true_eq decide_eq_false_iff_not List.getElem?_cons_zero List.getElem?_cons_succ List.getElem?_nil List.getD_cons_zero List.getD_cons_succ List.getD_nil List.set_cons_zero List.set_cons_succ List.length_cons List.length_nil List.cons_append List.nil_append List.append_nil List.all_cons List.all_nil List.map_cons List.map_nil List.take_succ_cons List.take_zero List.drop_succ_cons List.drop_zero Bool.and_true Bool.true_and Bool.and_self Bool.and_false Bool.false_and one Go.Av.frozen beq_self_eq_true true_and and_true forall_const false_implies implies_true and_self Option.map_some Option.map_none Nat.zero_add Nat.add_zero Nat.zero_mul Nat.mul_one Nat.one_mul Int.toNat_zero ne_eq not_false_eq_true not_true_eq_false Bool.true_eq_false Bool.false_eq_true List.toList_toArray inr Go.Av.byteOf isByte decide_eq_decide Bool.not_true Bool.not_false Bool.not_eq_true' Bool.or_true Bool.true_or Bool.or_false Bool.false_or ge_iff_le gt_iff_lt and_assoc Bool.decide_eq_true beq_iff_eq beq_eq_false_iff_ne bne_iff_ne bne_self_eq_false if_true if_false Bool.and_eq_true Bool.or_eq_true Bool.and_eq_false_imp Bool.or_eq_false_iff Bool.not_eq_false' has Option.isSome_some Option.isSome_none Int.toNat_natCast Int.cast_ofNat_Int List.length_append xapp2 xapp xappS xappD xappB notInt srcOf srcB byteAV splice' xcut xcutS xcutF xcutB xcutN xcut0 cutL loOf hiOf evo xmake zelem xmax xcopy2 xcopyS xcopyB xnil xcut3 ixOf xclear2 xclearB List.getElem?_toArray xbin2 xnileq xempty xmkmap xmput xmputB xmputF isKey keyEq mfind xbin3 xeqs xeqop eqFs bothB leafEq xlook xlookB xlookF xbytes beq_c_n beq_n_c bne_c_n bne_n_c one_nil dxi dxic dbri rix dck reader blind opOk refOk Go.Op.operands Go.Call.operands List.contains_cons List.contains_nil dxg dxgc dbrg pck putD List.lookup_cons List.lookup_nil ts2 tb2 zl2 za2 Tryz.underlying2 ts3 tb3 zl3 za3 Tryz.underlying3 ts4 tb4 zl4 za4 Tryz.underlying4 ts5 tb5 zl5 za5 Tryz.underlying5 ts6 tb6 zl6 za6 Tryz.underlying6 ts7 tb7 za7 Tryz.underlying7 ts8 tb8 za8 Tryz.underlying8 ts9 tb9 zl9 za9 Tryz.underlying9 ts10 tb10 zl10 za10 Tryz.underlying10 ts11 tb11 zl11 za11 Tryz.underlying11 ts12 tb12 zl12 za12 Tryz.underlying12 ts13 tb13 za13 Tryz.underlying13 ts14 tb14 za14 Tryz.underlying14 ts18 tb18 za18 Tryz.underlying18 ts19 tb19 za19 Tryz.underlying19 ts21 tb21 zl21 za21 Tryz.underlying21 ts22 tb22 zl22 za22 Tryz.underlying22 ts24 tb24 za24 Tryz.underlying24 ts25 tb25 za25 Tryz.underlying25 ts27 tb27 zl27 za27 Tryz.underlying27 ts35 tb35 zl35 za35 Tryz.underlying35 ts36 tb36 za36 Tryz.underlying36 ts37 tb37 za37 Tryz.underlying37 ts39 tb39 zl39 za39 Tryz.underlying39 ts41 tb41 za41 Tryz.underlying41 ts42 tb42 za42 Tryz.underlying42 ts63 tb63 zl63 za63 Tryz.underlying63 ts64 tb64 zl64 za64 Tryz.underlying64 ts65 tb65 za65 Tryz.underlying65 ts66 tb66 za66 Tryz.underlying66 ts67 tb67 zl67 za67 Tryz.underlying67 ts69 tb69 za69 Tryz.underlying69 ts70 tb70 za70 Tryz.underlying70 ts73 tb73 za73 Tryz.underlying73 ts74 tb74 za74 Tryz.underlying74 ts75 tb75 zl75 za75 Tryz.underlying75 ts82 tb82 zl82 za82 Tryz.underlying82 ts96 tb96 za96 Tryz.underlying96 ts97 tb97 za97 Tryz.underlying97 ts103 tb103 za103 Tryz.underlying103 ts104 tb104 za104 Tryz.underlying104 ts109 tb109 zl109 za109 Tryz.underlying109 ts116 tb116 zl116 za116 Tryz.underlying116 ts117 tb117 za117 Tryz.underlying117 ts118 tb118 za118 Tryz.underlying118 ts120 tb120 zl120 za120 Tryz.underlying120 ts124 tb124 zl124 za124 Tryz.underlying124 ts126 tb126 za126 Tryz.underlying126 ts128 tb128 zl128 za128 Tryz.underlying128 ts130 tb130 za130 Tryz.underlying130 ts131 tb131 za131 Tryz.underlying131 ts153 tb153 zl153 za153 Tryz.underlying153 ts167 tb167 zl167 za167 Tryz.underlying167 ts171 tb171 zl171 za171 Tryz.underlying171 ts177 tb177 zl177 za177 Tryz.underlying177 ts183 tb183 zl183 za183 Tryz.underlying183 ts189 tb189 zl189 za189 Tryz.underlying189 ts191 tb191 zl191 za191 Tryz.underlying191 ts195 tb195 za195 Tryz.underlying195 ts196 tb196 za196 Tryz.underlying196 ts198 tb198 zl198 za198 Tryz.underlying198 ts203 tb203 Tryz.underlying203 ts209 tb209 za209 Tryz.underlying209 ts210 tb210 za210 Tryz.underlying210 ts211 tb211 Tryz.underlying211 ts216 tb216 za216 Tryz.underlying216 ts217 tb217 za217 Tryz.underlying217 ts220 tb220 Tryz.underlying220 ts225 tb225 Tryz.underlying225 ts226 tb226 Tryz.underlying226 ts227 tb227 za227 Tryz.underlying227 ts228 tb228 za228 Tryz.underlying228 ts232 tb232 zl232 za232 Tryz.underlying232 ts233 tb233 zl233 za233 Tryz.underlying233 ts235 tb235 zl235 za235 Tryz.underlying235 ts236 tb236 zl236 za236 Tryz.underlying236 ts237 tb237 za237 Tryz.underlying237 ts238 tb238 za238 Tryz.underlying238

def asideT (t : List UInt8) : List UInt8 := 40 :: (t ++ [41])
def newB (p : Pa) : Bl :=
  if p.kind == 1 then ⟨1, wrapL 60 p.text, [], []⟩ else if p.kind == 5 then ⟨2, [turnLine p.text], [], []⟩ else ⟨3, [indent 20 p.text], [0], p.text⟩
def moreB (b : Bl) (p : Pa) : Bl := if p.kind == 3 then addB b 1 15 (wrapL 30 (asideT p.text)) else addB b 2 10 (wrapL 35 p.text)
/-- what is done, and the block under way -/
def bstep (s : List Bl × Bl) (p : Pa) : List Bl × Bl := if joins p then (s.1, moreB s.2 p) else (s.1 ++ [s.2], newB p)
def blocksS (x : Sc) : List Bl × Bl := x.paras.foldl bstep ([], ⟨0, wrapL 60 (headL x), [], []⟩)
def blocksL (x : Sc) : List Bl := (blocksS x).1 ++ [(blocksS x).2]

theorem frz_bls (id e : Nat) (l : List AV) (bs : List Bl) : (bs.map blA).map (frz id e l) = bs.map blA := by
  rw [List.map_map]
  apply List.map_congr_left
  intro b _
  rfl
theorem frz_scB (id e : Nat) (l : List AV) (x : Sc) : frz id e l (scA x) = scA x := rfl
theorem frozen_bls (l : List Bl) : (flat (l.map blA)).all Av.frozen = true := by
  induction l with
  | nil => rfl
  | cons y l ih => simpa [flat, cellsOf, blA, Av.frozen] using ih

def XA (b : Bl) : AV := if b.kind == 3 then grpA 2 3 b.kind b.lines.length b.kinds.length b.name else blA b
def LA (b : Bl) : List AV := if b.kind == 3 then b.lines.map .str else []
def KA (b : Bl) : List AV := if b.kind == 3 then b.kinds.map (.int .i64) else []
def boT (x : Sc) (dn : List Bl) (cur : Bl) : List Blk := [.arr 5 [scA x], .arr 4 (dn.map blA ++ [XA cur]), .arr 1 (LA cur), .arr 1 (KA cur)]

theorem frz_lowC {n id es : Nat} {l : List AV} (hid : n ≤ id) {v : AV} (h : lowC n v = true) : frz1 id es l v = v := by
  cases v <;> try rfl
  rename_i i off len cap
  have hi : i < n := of_decide_eq_true h
  have : (i == id) = false := by simp; omega
  simp [frz1, this]
theorem frz_lowV {n id es : Nat} {l : List AV} (hid : n ≤ id) {v : AV} (h : lowV n v = true) : frz id es l v = v := by
  cases v with
  | agg r =>
    simp only [frz, AV.agg.injEq]
    conv => rhs; rw [← List.map_id r]
    exact List.map_congr_left fun x hx => frz_lowC hid (List.all_eq_true.1 h x hx)
  | fn f r => rfl
  | sl i off len cap => exact frz_lowC hid (show lowC n (.sl i off len cap) = true from h)
  | _ => rfl
theorem wkl_frz {n id es : Nat} {l : List AV} (hid : n ≤ id) {e : Env} : ∀ {e' : Env}, wkl n e e' → wkl n (frzE id es l e) e'
  | [], _ => trivial
  | (t, v) :: r, h => ⟨⟨h.1.1, by rw [get_frzE, h.1.2, frz_lowV hid h.1.1]⟩, wkl_frz hid h.2⟩
theorem low_bls (n : Nat) (l : List Bl) : lowB n (.arr 4 (l.map blA)) = true := low_all (frozen_bls l)
theorem low_sc (n : Nat) (x : Sc) : lowB n (.arr 5 [scA x]) = true := rfl

section
variable {c : Cx} {e e' : Env}
/-- the block under way is over: all is frozen -/
theorem over_shift {x : Sc} {dn : List Bl} {cur : Bl} (hc : c.sto.length ≤ 2) (hw : wkl 2 e e') : Shift c e (boT x dn cur) e' [.arr 5 [scA x], .arr 4 ((dn ++ [cur]).map blA), .arr 1 [], .arr 1 []] := by
  have fin : ∀ {e0 : Env} {s2 : List Blk}, wkl 2 e0 e' → Shift c e0 ([.arr 5 [scA x], .arr 4 ((dn ++ [cur]).map blA)] ++ s2) e' [.arr 5 [scA x], .arr 4 ((dn ++ [cur]).map blA), .arr 1 [], .arr 1 []] := by
    intro e0 s2 hw0
    refine Shift.trans (Shift.low 2 hc (by simp) ?_ hw0) (Shift.trans (Shift.reserve 1) (Shift.reserve 1))
    simp only [List.cons_append, List.nil_append, List.take_succ_cons, List.take_zero, List.all_cons, List.all_nil, low_bls, low_sc, Bool.and_self]
  unfold boT XA LA KA
  cases hk : cur.kind == 3 with
  | false =>
    simp only [Bool.false_eq_true, if_false]
    have : dn.map blA ++ [blA cur] = (dn ++ [cur]).map blA := by simp
    rw [this]
    exact fin (s2 := [.arr 1 [], .arr 1 []]) hw
  | true =>
    simp only [if_true]
    refine Shift.trans (Shift.frz 2 (es := 1) (l := cur.lines.map .str) rfl (frozen_strs _)) ?_
    simp only [List.set_cons_succ, List.set_cons_zero, List.map_cons, List.map_nil, frzB, frz_scB, List.map_append, frz_bls]
    simp only [grpA, frz, frz1, List.map_cons, List.map_nil, Nat.reduceBEq, beq_self_eq_true, cond_true, cond_false, Bool.false_and, Bool.true_and, List.length_map, Nat.zero_add, decide_true, Nat.le_refl, List.drop_zero, Bool.and_self]
    have h3 : (List.map (frz 2 1 (cur.lines.map .str)) (cur.kinds.map (.int .i64))) = cur.kinds.map (.int .i64) := by
      rw [List.map_map]
      exact List.map_congr_left fun _ _ => rfl
    have ht : List.take cur.lines.length (List.map AV.str cur.lines) = List.map AV.str cur.lines := List.take_of_length_le (by simp)
    rw [h3, ht]
    refine Shift.trans (Shift.frz 3 (es := 1) (l := cur.kinds.map (.int .i64)) rfl (frozen_ints _)) ?_
    simp only [List.set_cons_succ, List.set_cons_zero, List.map_cons, List.map_nil, frzB, frz_scB, List.map_append, frz_bls]
    simp only [grpA, frz, frz1, List.map_cons, List.map_nil, Nat.reduceBEq, beq_self_eq_true, cond_true, cond_false, Bool.false_and, Bool.true_and, List.length_map, Nat.zero_add, decide_true, Nat.le_refl, List.drop_zero, Bool.and_self]
    have ht2 : List.take cur.kinds.length (List.map (AV.int .i64) cur.kinds) = List.map (AV.int .i64) cur.kinds := List.take_of_length_le (by simp)
    rw [ht2]
    have : dn.map blA ++ [.agg [.int .i64 cur.kind, .fz 1 (cur.lines.map .str), .fz 1 (cur.kinds.map (.int .i64)), .str cur.name]] = (dn ++ [cur]).map blA := by simp [blA]
    rw [this, show List.map blA dn ++ [blA cur] = (dn ++ [cur]).map blA by simp]
    exact fin (s2 := [.dead, .dead]) (wkl_frz (n := 2) (id := 3) (by omega) (wkl_frz (n := 2) (id := 2) (by omega) hw))
end

theorem newB_kind (p : Pa) : (newB p).kind = 3 ↔ ¬ (p.kind = 1 ∨ p.kind = 5) := by
  unfold newB
  by_cases h1 : p.kind = 1
  · simp [h1]
  · by_cases h5 : p.kind = 5
    · simp [h5]
    · simp [h1, h5]

theorem boT_plain {x : Sc} {dn : List Bl} {b : Bl} (h : (b.kind == 3) = false) : boT x dn b = [.arr 5 [scA x], .arr 4 (dn.map blA ++ [blA b]), .arr 1 [], .arr 1 []] := by
  simp [boT, XA, LA, KA, h]
theorem boT_group {x : Sc} {dn : List Bl} {b : Bl} (h : (b.kind == 3) = true) : boT x dn b = [.arr 5 [scA x], .arr 4 (dn.map blA ++ [grpA 2 3 b.kind b.lines.length b.kinds.length b.name]), .arr 1 (b.lines.map .str), .arr 1 (b.kinds.map (.int .i64))] := by
  simp [boT, XA, LA, KA, h]
theorem low_boT (x : Sc) (dn : List Bl) (b : Bl) : (boT x dn b).all (lowB 4) = true := by
  have h1 := low_strs 4 b.lines
  have h2 : lowB 4 (.arr 1 (b.kinds.map (.int .i64))) = true := low_all (frozen_ints _)
  have h3 := low_all (n := 4) (frozen_bls dn)
  cases h : b.kind == 3 with
  | false =>
    rw [boT_plain h]
    have := low_bls 4 (dn ++ [b])
    rw [List.map_append] at this
    simp only [List.all_cons, List.all_nil, low_sc, this, Bool.and_true, Bool.true_and]
    have e : [blA b] = List.map blA [b] := rfl
    rw [e, this]; rfl
  | true =>
    rw [boT_group h]
    simp only [List.all_cons, List.all_nil, low_sc, h1, h2, Bool.and_true, Bool.true_and]
    simp only [lowB, flat_append, List.all_append, h3, flat, grpA, cellsOf, List.append_nil, List.all_cons, List.all_nil, lowC, Av.frozen, decide_true, Bool.and_self, Bool.true_and, Nat.reduceLT]
theorem moreB_kind (b : Bl) (p : Pa) : (moreB b p).kind = b.kind := by
  unfold moreB; split <;> rfl
theorem moreB_len (b : Bl) (p : Pa) : (moreB b p).lines.length ≤ b.lines.length + p.text.length + 4 ∧ (moreB b p).kinds.length ≤ b.kinds.length + p.text.length + 4 := by
  unfold moreB addB
  split
  · have := (wrapL_le 30 (asideT p.text)).1
    simp [asideT] at this ⊢; omega
  · have := (wrapL_le 35 p.text).1
    simp at this ⊢; omega
theorem newB_len (p : Pa) : (newB p).lines.length ≤ p.text.length + 4 ∧ (newB p).kinds.length ≤ 1 := by
  have := (wrapL_le 60 p.text).1
  unfold newB
  split
  · simp; omega
  · split <;> simp

set_option maxHeartbeats 8000000 in
theorem blocks_pch {St : Std} (hS : LibOk St) (x : Sc) (hx : SceneOk x) (hp : 1 ≤ x.place ∧ x.place ≤ 3) (ht : 1 ≤ x.time ∧ x.time ≤ 5) (hno : x.no.length < 1000000) (hset : x.set.length < 10000) (hps : x.paras.length ≤ 4000) : PcH Tryz.prog St 85 [scA x] (· = .fz 4 ((blocksL x).map blA)) := by
  have hh := heading_all_pc x hp ht (by omega) hset
  have hhl : (headL x).length < 2000000 := by
    have l1 := placeI_len x.place
    have l2 := timeI_len x.time
    unfold headL headLine
    split <;> simp <;> omega
  have hnh := newHeading_pch hS (headL x) (by omega)
  obtain ⟨e, hr, he2, he3⟩ := hx.run
  simp only [scA] at hh ⊢
  refine pch_intro (cth_intro Tryz.func85 rfl Tryz.ntmps85 hB85 (by simp) fun h ρ w hg => go (N := 65) Tryz.ntmps85 300 ?_)
  simp only [go_sem, Nat.reduceAdd, Nat.reduceMul, Nat.reduceSub, Nat.reduceBEq, Nat.reduceLT, Nat.reduceLeDiff, reduceIte, reduceCtorEq, Int.reduceToNat, Int.reduceLE, Int.reduceLT, Int.reduceNe, Int.reduceMul, Int.reduceAdd, Int.reduceSub, Int.reduceDiv, Int.reduceMod, Int.reduceEq, Int.reduceGE, Int.reduceGT, Int.reduceNeg, Int.reduceBEq, Int.reduceBNe, Nat.reduceEqDiff]
  refine pcall1 (hh) rfl (N := 65) Tryz.ntmps85 rfl (go (N := 65) Tryz.ntmps85 300 ?_)
  simp only [go_sem, Nat.reduceAdd, Nat.reduceMul, Nat.reduceSub, Nat.reduceBEq, Nat.reduceLT, Nat.reduceLeDiff, reduceIte, reduceCtorEq, Int.reduceToNat, Int.reduceLE, Int.reduceLT, Int.reduceNe, Int.reduceMul, Int.reduceAdd, Int.reduceSub, Int.reduceDiv, Int.reduceMod, Int.reduceEq, Int.reduceGE, Int.reduceGT, Int.reduceNeg, Int.reduceBEq, Int.reduceBNe, Nat.reduceEqDiff]
  refine pcallH1 hg (hnh) rfl (N := 65) Tryz.ntmps85 rfl (go (N := 65) Tryz.ntmps85 300 ?_)
  simp only [blA]
  simp only [go_sem, Nat.reduceAdd, Nat.reduceMul, Nat.reduceSub, Nat.reduceBEq, Nat.reduceLT, Nat.reduceLeDiff, reduceIte, reduceCtorEq, Int.reduceToNat, Int.reduceLE, Int.reduceLT, Int.reduceNe, Int.reduceMul, Int.reduceAdd, Int.reduceSub, Int.reduceDiv, Int.reduceMod, Int.reduceEq, Int.reduceGE, Int.reduceGT, Int.reduceNeg, Int.reduceBEq, Int.reduceBNe, Nat.reduceEqDiff, List.length_map]
  refine AWp.shift (Shift.trans (Shift.reserve 1) (Shift.reserve 1)) ?_
  refine aloop (ι := Nat × List Bl × Bl × Int) (fun y => x.paras.length - y.1)
    (fun y => [(13, .int .i64 y.1), (12, .int .i64 x.paras.length), (11, .fz 2 (x.paras.map paA)), (3, .sl 1 0 (y.2.1.length + 1) (y.2.1.length + 1))])
    (fun y => boT x y.2.1 y.2.2.1) (fun y => y.1 ≤ x.paras.length ∧ runL y.2.2.2 (x.paras.drop y.1) = some e ∧ ((y.2.2.2 = 2 ∨ y.2.2.2 = 3 ∨ y.2.2.2 = 4) → y.2.2.1.kind = 3) ∧ (x.paras.drop y.1).foldl bstep (y.2.1, y.2.2.1) = blocksS x ∧
      y.2.1.length ≤ y.1 ∧ y.2.2.1.lines.length ≤ 3000000 + 2100 * y.1 ∧ y.2.2.1.kinds.length ≤ 3000000 + 2100 * y.1) (0, [], ⟨0, wrapL 60 (headL x), [], []⟩, 0) ⟨by simp, hr, by simp, rfl, by simp, ?_, by simp⟩ ?_ ?_
  · have := (wrapL_le 60 (headL x)).1
    simp only; omega
  · refine Shift.weakS ?_ ?_
    · simp only [wk, go_sem, Nat.reduceAdd, Nat.reduceMul, Nat.reduceSub, Nat.reduceBEq, Nat.reduceLT, Nat.reduceLeDiff, reduceIte, reduceCtorEq, Int.reduceToNat, Int.reduceLE, Int.reduceLT, Int.reduceNe, Int.reduceMul, Int.reduceAdd, Int.reduceSub, Int.reduceDiv, Int.reduceMod, Int.reduceEq, Int.reduceGE, Int.reduceGT, Int.reduceNeg, Int.reduceBEq, Int.reduceBNe, Nat.reduceEqDiff]
    · rw [boT_plain (by rfl)]; rfl
  · rintro ⟨j, dn, cur, l⟩ ⟨g1, g2, g3, g4, g5, g6, g7⟩ J hJ
    simp only at g1 g2 g3 g4 g5 g6 g7 hJ ⊢
    by_cases gj : j < x.paras.length
    · have dj : decide ((j : Int) < (x.paras.length : Int)) = true := by simp; omega
      have hpA : List.getD (List.map paA x.paras) j .any = .agg [.int .i64 x.paras[j].kind, .str x.paras[j].text] := by simp [List.getD, gj, paA]
      rw [List.drop_eq_getElem_cons gj] at g2 g4
      simp only [runL] at g2
      rw [List.foldl_cons] at g4
      split at g2
      rotate_left
      · cases g2
      rename_i hok
      simp only [Bool.and_eq_true] at hok
      generalize x.paras[j] = p at *
      have hpl := para_len hok.1
      cases hj : joins p with
      | true =>
        have hst : bstep (dn, cur) p = (dn, moreB cur p) := by simp [bstep, hj]
        rw [hst] at g4
        have hml := moreB_len cur p
        have hmk := moreB_kind cur p
        have hk3 : (cur.kind == 3) = true := by
          have hf := hok.2
          simp only [joins, Bool.or_eq_true, beq_iff_eq] at hj
          simp only [followsL] at hf
          have : cur.kind = 3 := by
            rcases hj with h | h <;> simp [h] at hf <;> exact g3 (by omega)
          simpa using this
        have G : Grp (fun g L K => [.arr 5 [scA x], .arr 4 (dn.map blA ++ [g]), .arr 1 L, .arr 1 K, .arr 2 [.agg [.int .i64 p.kind, .str p.text]]]) (fun g => dn.map blA ++ [g]) 1 2 3 (dn.length + 1) dn.length :=
          ⟨by omega, fun _ _ _ => rfl, fun _ => by simp, fun _ => by simp [List.getD], fun _ _ => by simp, fun _ _ _ _ => rfl, fun _ _ _ => rfl, fun _ _ _ _ => rfl, fun _ _ _ => rfl, fun _ _ _ _ => rfl⟩
        have htn : (((dn.length + 1 : Nat) : Int) - 1).toNat = dn.length := by omega
        have fin : boT x dn (moreB cur p) = [.arr 5 [scA x], .arr 4 (dn.map blA ++ [grpA 2 3 (moreB cur p).kind (moreB cur p).lines.length (moreB cur p).kinds.length (moreB cur p).name]), .arr 1 ((moreB cur p).lines.map .str), .arr 1 ((moreB cur p).kinds.map (.int .i64))] := boT_group (by rw [hmk]; exact hk3)
        have hJ' := hJ (j + 1, dn, moreB cur p, p.kind) ⟨by simp only; omega, g2, by simp only; intro _; rw [hmk]; simpa using hk3, g4, by simp only; omega, by simp only; omega, by simp only; omega⟩ (by simp only; omega)
        simp only at hJ'
        rw [boT_group hk3]
        by_cases k3 : p.kind = 3
        · have q1 : (p.kind == 1) = false := by simp [k3]
          have q5 : (p.kind == 5) = false := by simp [k3]
          have q2 : (p.kind == 2) = false := by simp [k3]
          have q3 : (p.kind == 3) = true := by simp [k3]
          have hadd := addAside_cth hS G cur p.text (by omega) (by omega) (by omega)
          have hmb : addB cur 1 15 (wrapL 30 (40 :: (p.text ++ [41]))) = moreB cur p := by simp [moreB, k3, asideT]
          rw [hmb] at hadd
          simp only [grpS] at hadd
          refine goF (N := 65) Tryz.ntmps85 300 ?_
          simp only [go_sem, Nat.reduceAdd, Nat.reduceMul, Nat.reduceSub, Nat.reduceBEq, Nat.reduceLT, Nat.reduceLeDiff, reduceIte, reduceCtorEq, Int.reduceToNat, Int.reduceLE, Int.reduceLT, Int.reduceNe, Int.reduceMul, Int.reduceAdd, Int.reduceSub, Int.reduceDiv, Int.reduceMod, Int.reduceEq, Int.reduceGE, Int.reduceGT, Int.reduceNeg, Int.reduceBEq, Int.reduceBNe, Nat.reduceEqDiff, dj, hpA, q1, q5, q2, q3, List.length_map]
          repeat refine And.intro (by first | omega | exact .inl trivial | rfl | (simp; done) | (simp; omega)) ?_
          refine adrawLast [] rfl mixed (by decide) rfl (N := 65) Tryz.ntmps85 (by decide) 100 ?_
          simp only [go_sem, Nat.reduceAdd, Nat.reduceMul, Nat.reduceSub, Nat.reduceBEq, Nat.reduceLT, Nat.reduceLeDiff, reduceIte, reduceCtorEq, Int.reduceToNat, Int.reduceLE, Int.reduceLT, Int.reduceNe, Int.reduceMul, Int.reduceAdd, Int.reduceSub, Int.reduceDiv, Int.reduceMod, Int.reduceEq, Int.reduceGE, Int.reduceGT, Int.reduceNeg, Int.reduceBEq, Int.reduceBNe, Nat.reduceEqDiff, runR, contR, brR, step1R, resNR, stopNR, exitNR, dxk, dxkc, dbrk, ↓brR_true, ↓brR_false, ↓dbrk_true, ↓dbrk_false, iniO, KLast, List.length_append, List.length_map, htn]
          repeat refine And.intro (by first | omega | exact .inl trivial | rfl | (simp; done) | (simp; omega)) ?_
          refine goF (N := 65) Tryz.ntmps85 300 ?_
          simp only [go_sem, Nat.reduceAdd, Nat.reduceMul, Nat.reduceSub, Nat.reduceBEq, Nat.reduceLT, Nat.reduceLeDiff, reduceIte, reduceCtorEq, Int.reduceToNat, Int.reduceLE, Int.reduceLT, Int.reduceNe, Int.reduceMul, Int.reduceAdd, Int.reduceSub, Int.reduceDiv, Int.reduceMod, Int.reduceEq, Int.reduceGE, Int.reduceGT, Int.reduceNeg, Int.reduceBEq, Int.reduceBNe, Nat.reduceEqDiff]
          refine acallH hg (hadd) (N := 65) Tryz.ntmps85 rfl ?_
          rintro _ _ ⟨rfl, rfl⟩
          refine goF (N := 65) Tryz.ntmps85 300 ?_
          simp only [go_sem, Nat.reduceAdd, Nat.reduceMul, Nat.reduceSub, Nat.reduceBEq, Nat.reduceLT, Nat.reduceLeDiff, reduceIte, reduceCtorEq, Int.reduceToNat, Int.reduceLE, Int.reduceLT, Int.reduceNe, Int.reduceMul, Int.reduceAdd, Int.reduceSub, Int.reduceDiv, Int.reduceMod, Int.reduceEq, Int.reduceGE, Int.reduceGT, Int.reduceNeg, Int.reduceBEq, Int.reduceBNe, Nat.reduceEqDiff]
          repeat refine And.intro (by first | omega | exact .inl trivial | rfl | (simp; done) | (simp; omega)) ?_
          rw [show (j : Int) + 1 = ((j + 1 : Nat) : Int) by omega]
          refine ainv hJ' (Shift.trans (Shift.low 4 (e' := [(13, .int .i64 ((j + 1 : Nat) : Int)), (12, .int .i64 x.paras.length), (11, .fz 2 (x.paras.map paA)), (3, .sl 1 0 (dn.length + 1) (dn.length + 1))]) (by simp) (by simp) ?_ ?_) (Shift.weakS ?_ ?_))
          · have := low_boT x dn (moreB cur p)
            rw [fin] at this
            exact this
          · simp only [wkl, lowV, lowC, Av.get, go_sem, Nat.reduceAdd, Nat.reduceMul, Nat.reduceSub, Nat.reduceBEq, Nat.reduceLT, Nat.reduceLeDiff, reduceIte, reduceCtorEq, Int.reduceToNat, Int.reduceLE, Int.reduceLT, Int.reduceNe, Int.reduceMul, Int.reduceAdd, Int.reduceSub, Int.reduceDiv, Int.reduceMod, Int.reduceEq, Int.reduceGE, Int.reduceGT, Int.reduceNeg, Int.reduceBEq, Int.reduceBNe, Nat.reduceEqDiff]
          · simp only [wk, go_sem, Nat.reduceAdd, Nat.reduceMul, Nat.reduceSub, Nat.reduceBEq, Nat.reduceLT, Nat.reduceLeDiff, reduceIte, reduceCtorEq, Int.reduceToNat, Int.reduceLE, Int.reduceLT, Int.reduceNe, Int.reduceMul, Int.reduceAdd, Int.reduceSub, Int.reduceDiv, Int.reduceMod, Int.reduceEq, Int.reduceGE, Int.reduceGT, Int.reduceNeg, Int.reduceBEq, Int.reduceBNe, Nat.reduceEqDiff]
          · rw [fin]; rfl
        · have k4 : p.kind = 4 := by
            simp only [joins, Bool.or_eq_true, beq_iff_eq] at hj
            omega
          have q1 : (p.kind == 1) = false := by simp [k4]
          have q5 : (p.kind == 5) = false := by simp [k4]
          have q2 : (p.kind == 2) = false := by simp [k4]
          have q3 : (p.kind == 3) = false := by simp [k4]
          have q4 : (p.kind == 4) = true := by simp [k4]
          have hadd := addSpeech_cth hS G cur p.text (by omega) (by omega) (by omega)
          have hmb : addB cur 2 10 (wrapL 35 p.text) = moreB cur p := by simp [moreB, k4]
          rw [hmb] at hadd
          simp only [grpS] at hadd
          refine goF (N := 65) Tryz.ntmps85 300 ?_
          simp only [go_sem, Nat.reduceAdd, Nat.reduceMul, Nat.reduceSub, Nat.reduceBEq, Nat.reduceLT, Nat.reduceLeDiff, reduceIte, reduceCtorEq, Int.reduceToNat, Int.reduceLE, Int.reduceLT, Int.reduceNe, Int.reduceMul, Int.reduceAdd, Int.reduceSub, Int.reduceDiv, Int.reduceMod, Int.reduceEq, Int.reduceGE, Int.reduceGT, Int.reduceNeg, Int.reduceBEq, Int.reduceBNe, Nat.reduceEqDiff, dj, hpA, q1, q5, q2, q3, q4, List.length_map]
          repeat refine And.intro (by first | omega | exact .inl trivial | rfl | (simp; done) | (simp; omega)) ?_
          refine adrawLast [] rfl mixed (by decide) rfl (N := 65) Tryz.ntmps85 (by decide) 100 ?_
          simp only [go_sem, Nat.reduceAdd, Nat.reduceMul, Nat.reduceSub, Nat.reduceBEq, Nat.reduceLT, Nat.reduceLeDiff, reduceIte, reduceCtorEq, Int.reduceToNat, Int.reduceLE, Int.reduceLT, Int.reduceNe, Int.reduceMul, Int.reduceAdd, Int.reduceSub, Int.reduceDiv, Int.reduceMod, Int.reduceEq, Int.reduceGE, Int.reduceGT, Int.reduceNeg, Int.reduceBEq, Int.reduceBNe, Nat.reduceEqDiff, runR, contR, brR, step1R, resNR, stopNR, exitNR, dxk, dxkc, dbrk, ↓brR_true, ↓brR_false, ↓dbrk_true, ↓dbrk_false, iniO, KLast, List.length_append, List.length_map, htn]
          repeat refine And.intro (by first | omega | exact .inl trivial | rfl | (simp; done) | (simp; omega)) ?_
          refine goF (N := 65) Tryz.ntmps85 300 ?_
          simp only [go_sem, Nat.reduceAdd, Nat.reduceMul, Nat.reduceSub, Nat.reduceBEq, Nat.reduceLT, Nat.reduceLeDiff, reduceIte, reduceCtorEq, Int.reduceToNat, Int.reduceLE, Int.reduceLT, Int.reduceNe, Int.reduceMul, Int.reduceAdd, Int.reduceSub, Int.reduceDiv, Int.reduceMod, Int.reduceEq, Int.reduceGE, Int.reduceGT, Int.reduceNeg, Int.reduceBEq, Int.reduceBNe, Nat.reduceEqDiff]
          refine acallH hg (hadd) (N := 65) Tryz.ntmps85 rfl ?_
          rintro _ _ ⟨rfl, rfl⟩
          refine goF (N := 65) Tryz.ntmps85 300 ?_
          simp only [go_sem, Nat.reduceAdd, Nat.reduceMul, Nat.reduceSub, Nat.reduceBEq, Nat.reduceLT, Nat.reduceLeDiff, reduceIte, reduceCtorEq, Int.reduceToNat, Int.reduceLE, Int.reduceLT, Int.reduceNe, Int.reduceMul, Int.reduceAdd, Int.reduceSub, Int.reduceDiv, Int.reduceMod, Int.reduceEq, Int.reduceGE, Int.reduceGT, Int.reduceNeg, Int.reduceBEq, Int.reduceBNe, Nat.reduceEqDiff]
          repeat refine And.intro (by first | omega | exact .inl trivial | rfl | (simp; done) | (simp; omega)) ?_
          rw [show (j : Int) + 1 = ((j + 1 : Nat) : Int) by omega]
          refine ainv hJ' (Shift.trans (Shift.low 4 (e' := [(13, .int .i64 ((j + 1 : Nat) : Int)), (12, .int .i64 x.paras.length), (11, .fz 2 (x.paras.map paA)), (3, .sl 1 0 (dn.length + 1) (dn.length + 1))]) (by simp) (by simp) ?_ ?_) (Shift.weakS ?_ ?_))
          · have := low_boT x dn (moreB cur p)
            rw [fin] at this
            exact this
          · simp only [wkl, lowV, lowC, Av.get, go_sem, Nat.reduceAdd, Nat.reduceMul, Nat.reduceSub, Nat.reduceBEq, Nat.reduceLT, Nat.reduceLeDiff, reduceIte, reduceCtorEq, Int.reduceToNat, Int.reduceLE, Int.reduceLT, Int.reduceNe, Int.reduceMul, Int.reduceAdd, Int.reduceSub, Int.reduceDiv, Int.reduceMod, Int.reduceEq, Int.reduceGE, Int.reduceGT, Int.reduceNeg, Int.reduceBEq, Int.reduceBNe, Nat.reduceEqDiff]
          · simp only [wk, go_sem, Nat.reduceAdd, Nat.reduceMul, Nat.reduceSub, Nat.reduceBEq, Nat.reduceLT, Nat.reduceLeDiff, reduceIte, reduceCtorEq, Int.reduceToNat, Int.reduceLE, Int.reduceLT, Int.reduceNe, Int.reduceMul, Int.reduceAdd, Int.reduceSub, Int.reduceDiv, Int.reduceMod, Int.reduceEq, Int.reduceGE, Int.reduceGT, Int.reduceNeg, Int.reduceBEq, Int.reduceBNe, Nat.reduceEqDiff]
          · rw [fin]; rfl
      | false =>
        have hst : bstep (dn, cur) p = (dn ++ [cur], newB p) := by simp [bstep, hj]
        rw [hst] at g4
        have hnl := newB_len p
        have hJ' := hJ (j + 1, dn ++ [cur], newB p, p.kind) ⟨by simp only; omega, g2, by
          simp only
          intro h
          rw [newB_kind]
          have hk := join_no hj
          omega, g4, by simp; omega, by simp only; omega, by simp only; omega⟩ (by simp only; omega)
        have hlen1 : (dn ++ [cur]).length + 1 = dn.length + 1 + 1 := by simp
        simp only [hlen1] at hJ'
        have hk15 : 1 ≤ p.kind ∧ p.kind ≤ 5 := by
          have := hok.1
          simp only [paraOk, Bool.and_eq_true, decide_eq_true_eq] at this
          exact ⟨this.1, this.2.1⟩
        have hkj := join_no hj
        refine AWp.shift (over_shift (e' := [(13, .int .i64 (j : Int)), (12, .int .i64 x.paras.length), (11, .fz 2 (x.paras.map paA)), (3, .sl 1 0 (dn.length + 1) (dn.length + 1))]) (by simp) (by simp only [wkl, lowV, lowC, Av.get, go_sem, Nat.reduceAdd, Nat.reduceMul, Nat.reduceSub, Nat.reduceBEq, Nat.reduceLT, Nat.reduceLeDiff, reduceIte, reduceCtorEq, Int.reduceToNat, Int.reduceLE, Int.reduceLT, Int.reduceNe, Int.reduceMul, Int.reduceAdd, Int.reduceSub, Int.reduceDiv, Int.reduceMod, Int.reduceEq, Int.reduceGE, Int.reduceGT, Int.reduceNeg, Int.reduceBEq, Int.reduceBNe, Nat.reduceEqDiff])) ?_
        have hlm : (List.map blA (dn ++ [cur])).length = dn.length + 1 := by simp
        by_cases k1 : p.kind = 1
        · have q1 : (p.kind == 1) = true := by simp [k1]
          have hna := newAction_pch hS p.text (by omega)
          have hnb : newB p = ⟨1, wrapL 60 p.text, [], []⟩ := by simp [newB, k1]
          have fin := boT_plain (x := x) (dn := dn ++ [cur]) (b := newB p) (by rw [hnb]; rfl)
          refine goF (N := 65) Tryz.ntmps85 300 ?_
          simp only [go_sem, Nat.reduceAdd, Nat.reduceMul, Nat.reduceSub, Nat.reduceBEq, Nat.reduceLT, Nat.reduceLeDiff, reduceIte, reduceCtorEq, Int.reduceToNat, Int.reduceLE, Int.reduceLT, Int.reduceNe, Int.reduceMul, Int.reduceAdd, Int.reduceSub, Int.reduceDiv, Int.reduceMod, Int.reduceEq, Int.reduceGE, Int.reduceGT, Int.reduceNeg, Int.reduceBEq, Int.reduceBNe, Nat.reduceEqDiff, dj, hpA, q1, hlm, List.length_map]
          repeat refine And.intro (by first | omega | exact .inl trivial | rfl | (simp; done) | (simp; omega)) ?_
          refine pcallH1 hg (hna) rfl (N := 65) Tryz.ntmps85 rfl (goF (N := 65) Tryz.ntmps85 300 ?_)
          simp only [blA]
          simp only [go_sem, Nat.reduceAdd, Nat.reduceMul, Nat.reduceSub, Nat.reduceBEq, Nat.reduceLT, Nat.reduceLeDiff, reduceIte, reduceCtorEq, Int.reduceToNat, Int.reduceLE, Int.reduceLT, Int.reduceNe, Int.reduceMul, Int.reduceAdd, Int.reduceSub, Int.reduceDiv, Int.reduceMod, Int.reduceEq, Int.reduceGE, Int.reduceGT, Int.reduceNeg, Int.reduceBEq, Int.reduceBNe, Nat.reduceEqDiff, hlm, List.length_map]
          repeat refine And.intro (by first | omega | exact .inl trivial | rfl | (simp; done) | (simp; omega)) ?_
          rw [hnb] at fin
          rw [hnb] at hJ'
          rw [show (j : Int) + 1 = ((j + 1 : Nat) : Int) by omega]
          refine ainv hJ' (Shift.trans (Shift.low 4 (e' := [(13, .int .i64 ((j + 1 : Nat) : Int)), (12, .int .i64 x.paras.length), (11, .fz 2 (x.paras.map paA)), (3, .sl 1 0 (dn.length + 1 + 1) (dn.length + 1 + 1))]) (by simp) (by simp) ?_ ?_) (Shift.weakS ?_ ?_))
          · have := low_boT x (dn ++ [cur]) ⟨1, wrapL 60 p.text, [], []⟩
            rw [fin] at this
            exact this
          · simp only [wkl, lowV, lowC, Av.get, go_sem, Nat.reduceAdd, Nat.reduceMul, Nat.reduceSub, Nat.reduceBEq, Nat.reduceLT, Nat.reduceLeDiff, reduceIte, reduceCtorEq, Int.reduceToNat, Int.reduceLE, Int.reduceLT, Int.reduceNe, Int.reduceMul, Int.reduceAdd, Int.reduceSub, Int.reduceDiv, Int.reduceMod, Int.reduceEq, Int.reduceGE, Int.reduceGT, Int.reduceNeg, Int.reduceBEq, Int.reduceBNe, Nat.reduceEqDiff]
          · simp only [wk, go_sem, Nat.reduceAdd, Nat.reduceMul, Nat.reduceSub, Nat.reduceBEq, Nat.reduceLT, Nat.reduceLeDiff, reduceIte, reduceCtorEq, Int.reduceToNat, Int.reduceLE, Int.reduceLT, Int.reduceNe, Int.reduceMul, Int.reduceAdd, Int.reduceSub, Int.reduceDiv, Int.reduceMod, Int.reduceEq, Int.reduceGE, Int.reduceGT, Int.reduceNeg, Int.reduceBEq, Int.reduceBNe, Nat.reduceEqDiff]
          · rw [fin]; rfl
        · by_cases k5 : p.kind = 5
          · have q1 : (p.kind == 1) = false := by simp [k5]
            have q5 : (p.kind == 5) = true := by simp [k5]
            have hna := newTurn_pc p.text (by omega)
            have hnb : newB p = ⟨2, [turnLine p.text], [], []⟩ := by simp [newB, k5]
            have fin := boT_plain (x := x) (dn := dn ++ [cur]) (b := newB p) (by rw [hnb]; rfl)
            refine goF (N := 65) Tryz.ntmps85 300 ?_
            simp only [go_sem, Nat.reduceAdd, Nat.reduceMul, Nat.reduceSub, Nat.reduceBEq, Nat.reduceLT, Nat.reduceLeDiff, reduceIte, reduceCtorEq, Int.reduceToNat, Int.reduceLE, Int.reduceLT, Int.reduceNe, Int.reduceMul, Int.reduceAdd, Int.reduceSub, Int.reduceDiv, Int.reduceMod, Int.reduceEq, Int.reduceGE, Int.reduceGT, Int.reduceNeg, Int.reduceBEq, Int.reduceBNe, Nat.reduceEqDiff, dj, hpA, q1, q5, hlm, List.length_map]
            repeat refine And.intro (by first | omega | exact .inl trivial | rfl | (simp; done) | (simp; omega)) ?_
            refine pcall1 (hna) rfl (N := 65) Tryz.ntmps85 rfl (goF (N := 65) Tryz.ntmps85 300 ?_)
            simp only [blA]
            simp only [go_sem, Nat.reduceAdd, Nat.reduceMul, Nat.reduceSub, Nat.reduceBEq, Nat.reduceLT, Nat.reduceLeDiff, reduceIte, reduceCtorEq, Int.reduceToNat, Int.reduceLE, Int.reduceLT, Int.reduceNe, Int.reduceMul, Int.reduceAdd, Int.reduceSub, Int.reduceDiv, Int.reduceMod, Int.reduceEq, Int.reduceGE, Int.reduceGT, Int.reduceNeg, Int.reduceBEq, Int.reduceBNe, Nat.reduceEqDiff, hlm, List.length_map]
            repeat refine And.intro (by first | omega | exact .inl trivial | rfl | (simp; done) | (simp; omega)) ?_
            rw [hnb] at fin
            rw [hnb] at hJ'
            rw [show (j : Int) + 1 = ((j + 1 : Nat) : Int) by omega]
            refine ainv hJ' (Shift.trans (Shift.low 4 (e' := [(13, .int .i64 ((j + 1 : Nat) : Int)), (12, .int .i64 x.paras.length), (11, .fz 2 (x.paras.map paA)), (3, .sl 1 0 (dn.length + 1 + 1) (dn.length + 1 + 1))]) (by simp) (by simp) ?_ ?_) (Shift.weakS ?_ ?_))
            · have := low_boT x (dn ++ [cur]) ⟨2, [turnLine p.text], [], []⟩
              rw [fin] at this
              exact this
            · simp only [wkl, lowV, lowC, Av.get, go_sem, Nat.reduceAdd, Nat.reduceMul, Nat.reduceSub, Nat.reduceBEq, Nat.reduceLT, Nat.reduceLeDiff, reduceIte, reduceCtorEq, Int.reduceToNat, Int.reduceLE, Int.reduceLT, Int.reduceNe, Int.reduceMul, Int.reduceAdd, Int.reduceSub, Int.reduceDiv, Int.reduceMod, Int.reduceEq, Int.reduceGE, Int.reduceGT, Int.reduceNeg, Int.reduceBEq, Int.reduceBNe, Nat.reduceEqDiff]
            · simp only [wk, go_sem, Nat.reduceAdd, Nat.reduceMul, Nat.reduceSub, Nat.reduceBEq, Nat.reduceLT, Nat.reduceLeDiff, reduceIte, reduceCtorEq, Int.reduceToNat, Int.reduceLE, Int.reduceLT, Int.reduceNe, Int.reduceMul, Int.reduceAdd, Int.reduceSub, Int.reduceDiv, Int.reduceMod, Int.reduceEq, Int.reduceGE, Int.reduceGT, Int.reduceNeg, Int.reduceBEq, Int.reduceBNe, Nat.reduceEqDiff]
            · rw [fin]; rfl

          · have k2 : p.kind = 2 := by omega
            have q1 : (p.kind == 1) = false := by simp [k2]
            have q5 : (p.kind == 5) = false := by simp [k2]
            have q2 : (p.kind == 2) = true := by simp [k2]
            have hnb : newB p = ⟨3, [indent 20 p.text], [0], p.text⟩ := by simp [newB, k2]
            have fin := boT_group (x := x) (dn := dn ++ [cur]) (b := newB p) (by rw [hnb]; rfl)
            refine goF (N := 65) Tryz.ntmps85 300 ?_
            simp only [go_sem, Nat.reduceAdd, Nat.reduceMul, Nat.reduceSub, Nat.reduceBEq, Nat.reduceLT, Nat.reduceLeDiff, reduceIte, reduceCtorEq, Int.reduceToNat, Int.reduceLE, Int.reduceLT, Int.reduceNe, Int.reduceMul, Int.reduceAdd, Int.reduceSub, Int.reduceDiv, Int.reduceMod, Int.reduceEq, Int.reduceGE, Int.reduceGT, Int.reduceNeg, Int.reduceBEq, Int.reduceBNe, Nat.reduceEqDiff, dj, hpA, q1, q5, q2, hlm, List.length_map]
            repeat refine And.intro (by first | omega | exact .inl trivial | rfl | (simp; done) | (simp; omega)) ?_
            refine acall (newGroup_ct _ _ _ p.text (by omega)) (N := 65) Tryz.ntmps85 rfl ?_
            rintro _ _ ⟨rfl, b5, b6, rfl⟩
            simp only [grpA]
            refine go (N := 65) Tryz.ntmps85 300 ?_
            simp only [go_sem, Nat.reduceAdd, Nat.reduceMul, Nat.reduceSub, Nat.reduceBEq, Nat.reduceLT, Nat.reduceLeDiff, reduceIte, reduceCtorEq, Int.reduceToNat, Int.reduceLE, Int.reduceLT, Int.reduceNe, Int.reduceMul, Int.reduceAdd, Int.reduceSub, Int.reduceDiv, Int.reduceMod, Int.reduceEq, Int.reduceGE, Int.reduceGT, Int.reduceNeg, Int.reduceBEq, Int.reduceBNe, Nat.reduceEqDiff, hlm, List.length_map]
            repeat refine And.intro (by first | omega | exact .inl trivial | rfl | (simp; done) | (simp; omega)) ?_
            rw [hnb] at fin
            rw [hnb] at hJ'
            simp only [List.map_cons, List.map_nil, List.length_cons, List.length_nil, Nat.zero_add, grpA] at fin
            rw [show (j : Int) + 1 = ((j + 1 : Nat) : Int) by omega]
            refine ainv hJ' (Shift.trans (Shift.low 4 (e' := [(13, .int .i64 ((j + 1 : Nat) : Int)), (12, .int .i64 x.paras.length), (11, .fz 2 (x.paras.map paA)), (3, .sl 1 0 (dn.length + 1 + 1) (dn.length + 1 + 1))]) (by simp) (by simp) ?_ ?_) (Shift.weakS ?_ ?_))
            · have := low_boT x (dn ++ [cur]) ⟨3, [indent 20 p.text], [0], p.text⟩
              rw [fin] at this
              exact this
            · simp only [wkl, lowV, lowC, Av.get, go_sem, Nat.reduceAdd, Nat.reduceMul, Nat.reduceSub, Nat.reduceBEq, Nat.reduceLT, Nat.reduceLeDiff, reduceIte, reduceCtorEq, Int.reduceToNat, Int.reduceLE, Int.reduceLT, Int.reduceNe, Int.reduceMul, Int.reduceAdd, Int.reduceSub, Int.reduceDiv, Int.reduceMod, Int.reduceEq, Int.reduceGE, Int.reduceGT, Int.reduceNeg, Int.reduceBEq, Int.reduceBNe, Nat.reduceEqDiff]
            · simp only [wk, go_sem, Nat.reduceAdd, Nat.reduceMul, Nat.reduceSub, Nat.reduceBEq, Nat.reduceLT, Nat.reduceLeDiff, reduceIte, reduceCtorEq, Int.reduceToNat, Int.reduceLE, Int.reduceLT, Int.reduceNe, Int.reduceMul, Int.reduceAdd, Int.reduceSub, Int.reduceDiv, Int.reduceMod, Int.reduceEq, Int.reduceGE, Int.reduceGT, Int.reduceNeg, Int.reduceBEq, Int.reduceBNe, Nat.reduceEqDiff]
            · rw [fin]; rfl

    · have dj : decide ((j : Int) < (x.paras.length : Int)) = false := by simp; omega
      have hj : j = x.paras.length := by omega
      subst hj
      rw [List.drop_length] at g4
      simp only [List.foldl_nil] at g4
      have hbl : blocksL x = dn ++ [cur] := by simp [blocksL, ← g4]
      refine AWp.shift (over_shift (e' := [(13, .int .i64 (x.paras.length : Int)), (12, .int .i64 x.paras.length), (11, .fz 2 (x.paras.map paA)), (3, .sl 1 0 (dn.length + 1) (dn.length + 1))]) (by simp) (by simp only [wkl, lowV, lowC, Av.get, go_sem, Nat.reduceAdd, Nat.reduceMul, Nat.reduceSub, Nat.reduceBEq, Nat.reduceLT, Nat.reduceLeDiff, reduceIte, reduceCtorEq, Int.reduceToNat, Int.reduceLE, Int.reduceLT, Int.reduceNe, Int.reduceMul, Int.reduceAdd, Int.reduceSub, Int.reduceDiv, Int.reduceMod, Int.reduceEq, Int.reduceGE, Int.reduceGT, Int.reduceNeg, Int.reduceBEq, Int.reduceBNe, Nat.reduceEqDiff])) ?_
      refine goF (N := 65) Tryz.ntmps85 300 ?_
      simp only [go_sem, Nat.reduceAdd, Nat.reduceMul, Nat.reduceSub, Nat.reduceBEq, Nat.reduceLT, Nat.reduceLeDiff, reduceIte, reduceCtorEq, Int.reduceToNat, Int.reduceLE, Int.reduceLT, Int.reduceNe, Int.reduceMul, Int.reduceAdd, Int.reduceSub, Int.reduceDiv, Int.reduceMod, Int.reduceEq, Int.reduceGE, Int.reduceGT, Int.reduceNeg, Int.reduceBEq, Int.reduceBNe, Nat.reduceEqDiff, dj]
      refine ARet.shift (Shift.freeze 2 (id := 1) rfl rfl (by simp) (Nat.le_refl _) (frozen_bls _)) (aret [2] rfl ⟨?_, rfl⟩)
      simp [resV, Av.get, Av.put, List.take_of_length_le, hbl]
end Go.Proofs.YtpjbbpilgfihbaaGreatDoor
