/- Draws: a scene. Own work of this seat. -/
import Derived.Test.YtikbgjhajgjjdaaGreatDoorP30
import Derived.Test.YtikbgjhajgjjdaaGreatDoorP19
import Derived.Test.YtikbgjhajgjjdaaGreatDoorP15
import Derived.Test.YtikbgjhajgjjdaaGreatDoorP14
set_option maxRecDepth 100000
set_option linter.unusedSimpArgs false
set_option linter.unusedVariables false
namespace Go.Proofs.YtikbgjhajgjjdaaGreatDoor
open Go Go.Av Go.RowKit
attribute [local go_sem ↓] br_true br_false dbr_true dbr_false dbri_true dbri_false dbrg_true dbrg_false
attribute [local go_sem] run cont br dbr dx dxc dgrd dyld dres dcall calm fieldPlace? allHas step1 opN grdN resN condN exitN stopN exitIt dOk xop xbin xint xarith xstr xbool xpick xnot xneg xextract xpart xpartOk xindex xfieldF fieldD xnew xbox xalloc xfieldAddr xptrAddIf xindexAddr xloadC xload putCells reElem xstoreB xstore xconv xtext xlen xlen2 xcall xfill xbuild cut rep xbuildSlice xbuildSliceD isRow elemD isU8 ev evs evp Go.Av.put Go.Av.get ofConst yldD yldV notBool_undef args0 cellsOf cond_true cond_false decide_true decide_false decide_eq_true_eq decide_eq_false_iff_not List.getElem?_cons_zero List.getElem?_cons_succ List.getElem?_nil List.getD_cons_zero List.getD_cons_succ List.getD_nil List.set_cons_zero List.set_cons_succ List.length_cons List.length_nil List.cons_append List.nil_append List.append_nil List.all_cons List.all_nil List.map_cons List.map_nil List.take_succ_cons List.take_zero List.drop_succ_cons List.drop_zero Bool.and_true Bool.true_and Bool.and_self Bool.and_false Bool.false_and one Go.Av.frozen beq_self_eq_true true_and and_true forall_const false_implies implies_true and_self Option.map_some Option.map_none Nat.zero_add Nat.add_zero Nat.zero_mul Nat.mul_one Nat.one_mul Int.toNat_zero ne_eq not_false_eq_true not_true_eq_false Bool.true_eq_false Bool.false_eq_true List.toList_toArray inr Go.Av.byteOf isByte decide_eq_decide Bool.not_true Bool.not_false Bool.not_eq_true' Bool.or_true Bool.true_or Bool.or_false Bool.false_or ge_iff_le gt_iff_lt and_assoc Bool.decide_eq_true beq_iff_eq beq_eq_false_iff_ne bne_iff_ne bne_self_eq_false if_true if_false Bool.and_eq_true Bool.or_eq_true Bool.and_eq_false_imp Bool.or_eq_false_iff Bool.not_eq_false' has Option.isSome_some Option.isSome_none Int.toNat_natCast Int.cast_ofNat_Int List.length_append xapp2 xapp xappS xappD xappB notInt srcOf srcB byteAV splice' xcut xcutS xcutF xcutB xcutN xcut0 cutL loOf hiOf evo xmake zelem xmax xcopy2 xcopyS xcopyB xnil xcut3 ixOf xclear2 xclearB List.getElem?_toArray xbin2 xnileq xempty xmkmap xmput xmputB xmputF isKey keyEq mfind xbin3 xeqs xeqop eqFs bothB leafEq xlook xlookB xlookF xbytes beq_c_n beq_n_c bne_c_n bne_n_c one_nil dxi dxic dbri rix dck reader blind opOk refOk Go.Op.operands Go.Call.operands List.contains_cons List.contains_nil dxg dxgc dbrg pck putD List.lookup_cons List.lookup_nil ts2 tb2 zl2 za2 Tryz.underlying2 ts3 tb3 zl3 za3 Tryz.underlying3 ts4 tb4 zl4 za4 Tryz.underlying4 ts5 tb5 zl5 za5 Tryz.underlying5 ts6 tb6 zl6 za6 Tryz.underlying6 ts7 tb7 za7 Tryz.underlying7 ts8 tb8 za8 Tryz.underlying8 ts9 tb9 zl9 za9 Tryz.underlying9 ts10 tb10 zl10 za10 Tryz.underlying10 ts11 tb11 zl11 za11 Tryz.underlying11 ts12 tb12 zl12 za12 Tryz.underlying12 ts13 tb13 za13 Tryz.underlying13 ts14 tb14 za14 Tryz.underlying14 ts18 tb18 za18 Tryz.underlying18 ts19 tb19 za19 Tryz.underlying19 ts21 tb21 zl21 za21 Tryz.underlying21 ts22 tb22 zl22 za22 Tryz.underlying22 ts24 tb24 za24 Tryz.underlying24 ts25 tb25 za25 Tryz.underlying25 ts26 tb26 zl26 za26 Tryz.underlying26 ts27 tb27 za27 Tryz.underlying27 ts28 tb28 za28 Tryz.underlying28 ts30 tb30 zl30 za30 Tryz.underlying30 ts31 tb31 zl31 za31 Tryz.underlying31 ts34 tb34 zl34 za34 Tryz.underlying34 ts35 tb35 zl35 za35 Tryz.underlying35 ts36 tb36 za36 Tryz.underlying36 ts37 tb37 za37 Tryz.underlying37 ts46 tb46 za46 Tryz.underlying46 ts47 tb47 za47 Tryz.underlying47 ts61 tb61 zl61 za61 Tryz.underlying61 ts62 tb62 za62 Tryz.underlying62 ts63 tb63 za63 Tryz.underlying63 ts66 tb66 zl66 za66 Tryz.underlying66 ts68 tb68 zl68 za68 Tryz.underlying68 ts74 tb74 za74 Tryz.underlying74 ts75 tb75 za75 Tryz.underlying75 ts77 tb77 zl77 za77 Tryz.underlying77 ts81 tb81 zl81 za81 Tryz.underlying81 ts82 tb82 za82 Tryz.underlying82 ts83 tb83 za83 Tryz.underlying83 ts86 tb86 zl86 za86 Tryz.underlying86 ts102 tb102 za102 Tryz.underlying102 ts103 tb103 za103 Tryz.underlying103 ts106 tb106 za106 Tryz.underlying106 ts107 tb107 za107 Tryz.underlying107 ts114 tb114 zl114 za114 Tryz.underlying114 ts117 tb117 zl117 za117 Tryz.underlying117 ts120 tb120 zl120 za120 Tryz.underlying120 ts133 tb133 zl133 za133 Tryz.underlying133 ts144 tb144 zl144 za144 Tryz.underlying144 ts151 tb151 zl151 za151 Tryz.underlying151 ts156 tb156 zl156 za156 Tryz.underlying156 ts160 tb160 Tryz.underlying160 ts169 tb169 za169 Tryz.underlying169 ts170 tb170 za170 Tryz.underlying170 ts175 tb175 Tryz.underlying175 ts180 tb180 za180 Tryz.underlying180 ts181 tb181 za181 Tryz.underlying181 ts185 tb185 za185 Tryz.underlying185 ts186 tb186 za186 Tryz.underlying186 ts187 tb187 Tryz.underlying187 ts189 tb189 Tryz.underlying189 ts190 tb190 Tryz.underlying190 ts191 tb191 za191 Tryz.underlying191 ts192 tb192 za192 Tryz.underlying192 ts196 tb196 zl196 za196 Tryz.underlying196 ts197 tb197 zl197 za197 Tryz.underlying197 ts199 tb199 zl199 za199 Tryz.underlying199 ts200 tb200 zl200 za200 Tryz.underlying200 ts201 tb201 za201 Tryz.underlying201 ts202 tb202 za202 Tryz.underlying202

theorem frz_str (id e : Nat) (l : List AV) (L : List Int) (k : Int) : frz id e l (str L k) = str L k := rfl

/-- a scene that is drawn -/
structure DrawnS (x : Sc) : Prop where
  no : x.no = []
  place : 1 ≤ x.place ∧ x.place ≤ 3
  set : x.set ∈ SetL
  time : 1 ≤ x.time ∧ x.time ≤ 5
  run : ∃ e, runL 0 x.paras = some e ∧ e ≠ 2 ∧ e ≠ 3
  len : x.paras.length ≤ 60
  all : ∀ p ∈ x.paras, DrawnP p

set_option maxHeartbeats 2000000 in
theorem scene_mc (L : List Int) (k : Int) (h3 : 0 ≤ k) (h4 : k ≤ 700000) :
    Mc Tryz.prog 24 2 (str L k) [] (fun r s => ∃ (x : Sc) (k' : Int), r = scA x ∧ DrawnS x ∧ s = str L k' ∧ k ≤ k' ∧ k' ≤ k + 5000) := by
  refine ct_intro Tryz.func24 rfl Tryz.ntmps24 hB24 (by simp) fun h ρ w => goF (N := 27) Tryz.ntmps24 300 ?_
  simp only [go_sem, Nat.reduceAdd, Nat.reduceMul, Nat.reduceSub, Nat.reduceBEq, Nat.reduceLT, Nat.reduceLeDiff, reduceIte, reduceCtorEq, Int.reduceToNat, Int.reduceLE, Int.reduceLT, Int.reduceNe, Int.reduceMul, Int.reduceAdd, Int.reduceSub, Int.reduceDiv, Int.reduceMod, Int.reduceEq, Int.reduceGE, Int.reduceGT, Int.reduceNeg, Int.reduceBEq, Int.reduceBNe, Nat.reduceEqDiff]
  refine mcall (range_mc L k 1 3 (by omega) (by omega) (by omega) (by omega) (by omega)) rfl rfl (id := 0) rfl (N := 27) Tryz.ntmps24 rfl ?_
  rintro _ _ ⟨⟨pl, rfl, hp1, hp2⟩, rfl⟩
  refine goF (N := 27) Tryz.ntmps24 300 ?_
  simp only [go_sem, Nat.reduceAdd, Nat.reduceMul, Nat.reduceSub, Nat.reduceBEq, Nat.reduceLT, Nat.reduceLeDiff, reduceIte, reduceCtorEq, Int.reduceToNat, Int.reduceLE, Int.reduceLT, Int.reduceNe, Int.reduceMul, Int.reduceAdd, Int.reduceSub, Int.reduceDiv, Int.reduceMod, Int.reduceEq, Int.reduceGE, Int.reduceGT, Int.reduceNeg, Int.reduceBEq, Int.reduceBNe, Nat.reduceEqDiff]
  refine pcall1 (sets_pc) rfl (N := 27) Tryz.ntmps24 rfl (go (N := 27) Tryz.ntmps24 300 ?_)
  simp only [go_sem, Nat.reduceAdd, Nat.reduceMul, Nat.reduceSub, Nat.reduceBEq, Nat.reduceLT, Nat.reduceLeDiff, reduceIte, reduceCtorEq, Int.reduceToNat, Int.reduceLE, Int.reduceLT, Int.reduceNe, Int.reduceMul, Int.reduceAdd, Int.reduceSub, Int.reduceDiv, Int.reduceMod, Int.reduceEq, Int.reduceGE, Int.reduceGT, Int.reduceNeg, Int.reduceBEq, Int.reduceBNe, Nat.reduceEqDiff]
  refine mcall (one_mc L (k + 1) SetL (by decide) (by decide) (by omega) (by omega)) rfl rfl (id := 0) rfl (N := 27) Tryz.ntmps24 rfl ?_
  rintro _ _ ⟨⟨st, hst, rfl⟩, rfl⟩
  refine goF (N := 27) Tryz.ntmps24 300 ?_
  simp only [go_sem, Nat.reduceAdd, Nat.reduceMul, Nat.reduceSub, Nat.reduceBEq, Nat.reduceLT, Nat.reduceLeDiff, reduceIte, reduceCtorEq, Int.reduceToNat, Int.reduceLE, Int.reduceLT, Int.reduceNe, Int.reduceMul, Int.reduceAdd, Int.reduceSub, Int.reduceDiv, Int.reduceMod, Int.reduceEq, Int.reduceGE, Int.reduceGT, Int.reduceNeg, Int.reduceBEq, Int.reduceBNe, Nat.reduceEqDiff]
  refine mcall (range_mc L (k + 1 + 1) 1 5 (by omega) (by omega) (by omega) (by omega) (by omega)) rfl rfl (id := 0) rfl (N := 27) Tryz.ntmps24 rfl ?_
  rintro _ _ ⟨⟨tm, rfl, ht1, ht2⟩, rfl⟩
  refine goF (N := 27) Tryz.ntmps24 300 ?_
  simp only [go_sem, Nat.reduceAdd, Nat.reduceMul, Nat.reduceSub, Nat.reduceBEq, Nat.reduceLT, Nat.reduceLeDiff, reduceIte, reduceCtorEq, Int.reduceToNat, Int.reduceLE, Int.reduceLT, Int.reduceNe, Int.reduceMul, Int.reduceAdd, Int.reduceSub, Int.reduceDiv, Int.reduceMod, Int.reduceEq, Int.reduceGE, Int.reduceGT, Int.reduceNeg, Int.reduceBEq, Int.reduceBNe, Nat.reduceEqDiff]
  refine mcall (pick_mc L (k + 1 + 1 + 1) [2, 5, 12] (by decide) (by decide) (by omega) (by omega)) rfl rfl (id := 0) rfl (N := 27) Tryz.ntmps24 rfl ?_
  rintro _ _ ⟨⟨n, hn, rfl⟩, rfl⟩
  have pn : 1 ≤ n ∧ n ≤ 12 := (show ∀ x ∈ [(2 : Int), 5, 12], 1 ≤ x ∧ x ≤ 12 by decide) n hn
  refine goF (N := 27) Tryz.ntmps24 300 ?_
  simp only [go_sem, Nat.reduceAdd, Nat.reduceMul, Nat.reduceSub, Nat.reduceBEq, Nat.reduceLT, Nat.reduceLeDiff, reduceIte, reduceCtorEq, Int.reduceToNat, Int.reduceLE, Int.reduceLT, Int.reduceNe, Int.reduceMul, Int.reduceAdd, Int.reduceSub, Int.reduceDiv, Int.reduceMod, Int.reduceEq, Int.reduceGE, Int.reduceGT, Int.reduceNeg, Int.reduceBEq, Int.reduceBNe, Nat.reduceEqDiff]
  refine mcall (next_mc L (k + 1 + 1 + 1 + 1) n (by omega) (by omega) (by omega) (by omega)) rfl rfl (id := 0) rfl (N := 27) Tryz.ntmps24 rfl ?_
  rintro _ _ ⟨⟨v, rfl, hv0, hv1⟩, rfl⟩
  refine goF (N := 27) Tryz.ntmps24 300 ?_
  simp only [go_sem, Nat.reduceAdd, Nat.reduceMul, Nat.reduceSub, Nat.reduceBEq, Nat.reduceLT, Nat.reduceLeDiff, reduceIte, reduceCtorEq, Int.reduceToNat, Int.reduceLE, Int.reduceLT, Int.reduceNe, Int.reduceMul, Int.reduceAdd, Int.reduceSub, Int.reduceDiv, Int.reduceMod, Int.reduceEq, Int.reduceGE, Int.reduceGT, Int.reduceNeg, Int.reduceBEq, Int.reduceBNe, Nat.reduceEqDiff]
  refine aloop (ι := Int × Int × List Pa) (fun x => (v - x.1).toNat)
    (fun x => [(17, .int .i64 x.1), (16, .int .i64 v), (3, .ptr 2 1 0 0), (2, .ptr 1 1 0 0), (0, .ptr 0 1 0 0)])
    (fun x => [.arr 2 [str L x.2.1], .arr 5 [.agg [.str [], .int .i64 0, .str [], .int .i64 0, .raw (.slice none 0 0)]], .arr 5 [.agg [.str [], .int .i64 pl, .str st, .int .i64 tm, .sl 3 0 x.2.2.length x.2.2.length]], .arr 2 (x.2.2.map paA)])
    (fun x => 0 ≤ x.1 ∧ x.1 ≤ v ∧ k ≤ x.2.1 ∧ x.2.1 ≤ k + 5 + 400 * x.1 ∧ (∃ e, runL 0 x.2.2 = some e ∧ e ≠ 2 ∧ e ≠ 3) ∧ (∀ p ∈ x.2.2, DrawnP p) ∧ (x.2.2.length : Int) ≤ 5 * x.1)
    (0, k + 1 + 1 + 1 + 1 + 1, []) ⟨Int.le_refl _, by simp only; omega, by simp only; omega, by simp only; omega, ⟨0, rfl, by decide, by decide⟩, by simp, by simp⟩ ?_ ?_
  · refine Shift.trans (Shift.cells 2 2 [.agg [.str [], .int .i64 pl, .str st, .int .i64 tm, .sl 3 0 0 0]] rfl rfl (by simp [cellsOf]) ⟨.refl, .refl, .refl, .refl, .sl, trivial⟩) (Shift.weak ?_)
    simp only [wk, go_sem, Nat.reduceAdd, Nat.reduceMul, Nat.reduceSub, Nat.reduceBEq, Nat.reduceLT, Nat.reduceLeDiff, reduceIte, reduceCtorEq, Int.reduceToNat, Int.reduceLE, Int.reduceLT, Int.reduceNe, Int.reduceMul, Int.reduceAdd, Int.reduceSub, Int.reduceDiv, Int.reduceMod, Int.reduceEq, Int.reduceGE, Int.reduceGT, Int.reduceNeg, Int.reduceBEq, Int.reduceBNe, Nat.reduceEqDiff]
  · rintro ⟨i, k', ps⟩ ⟨g1, g2, g3, g4, ⟨e, g5, g6, g7⟩, g8, g9⟩ J hJ
    simp only at g1 g2 g3 g4 g5 g6 g7 g8 g9 hJ ⊢
    by_cases gi : i < v
    · have di : decide (i < v) = true := by simp; omega
      refine go (N := 27) Tryz.ntmps24 300 ?_
      simp only [go_sem, Nat.reduceAdd, Nat.reduceMul, Nat.reduceSub, Nat.reduceBEq, Nat.reduceLT, Nat.reduceLeDiff, reduceIte, reduceCtorEq, Int.reduceToNat, Int.reduceLE, Int.reduceLT, Int.reduceNe, Int.reduceMul, Int.reduceAdd, Int.reduceSub, Int.reduceDiv, Int.reduceMod, Int.reduceEq, Int.reduceGE, Int.reduceGT, Int.reduceNeg, Int.reduceBEq, Int.reduceBNe, Nat.reduceEqDiff, di]
      refine adrawI [3] 0 [] mixed (by decide) (N := 27) Tryz.ntmps24 (by decide) 100 ?_
      simp only [go_sem, Nat.reduceAdd, Nat.reduceMul, Nat.reduceSub, Nat.reduceBEq, Nat.reduceLT, Nat.reduceLeDiff, reduceIte, reduceCtorEq, Int.reduceToNat, Int.reduceLE, Int.reduceLT, Int.reduceNe, Int.reduceMul, Int.reduceAdd, Int.reduceSub, Int.reduceDiv, Int.reduceMod, Int.reduceEq, Int.reduceGE, Int.reduceGT, Int.reduceNeg, Int.reduceBEq, Int.reduceBNe, Nat.reduceEqDiff]
      refine icall (paras_mc L k' (by omega) (by omega)) rfl rfl rfl ⟨_, _, [⟨5, [69, 78, 68]⟩], k', rfl, block_one (drawn_turn (by simp [TurnL])) (.inr rfl), rfl, by omega, by omega⟩ ?_
      rintro _ _ ⟨b, k2, rfl, hb, rfl, t1, t2⟩
      simp only [go_sem, Nat.reduceAdd, Nat.reduceMul, Nat.reduceSub, Nat.reduceBEq, Nat.reduceLT, Nat.reduceLeDiff, reduceIte, reduceCtorEq, Int.reduceToNat, Int.reduceLE, Int.reduceLT, Int.reduceNe, Int.reduceMul, Int.reduceAdd, Int.reduceSub, Int.reduceDiv, Int.reduceMod, Int.reduceEq, Int.reduceGE, Int.reduceGT, Int.reduceNeg, Int.reduceBEq, Int.reduceBNe, Nat.reduceEqDiff]
      refine ⟨by simp, .inl trivial, by simp; have := hb.len.2; omega, by simp; have := hb.len.2; omega, ?_⟩
      refine go (N := 27) Tryz.ntmps24 300 ?_
      simp only [go_sem, Nat.reduceAdd, Nat.reduceMul, Nat.reduceSub, Nat.reduceBEq, Nat.reduceLT, Nat.reduceLeDiff, reduceIte, reduceCtorEq, Int.reduceToNat, Int.reduceLE, Int.reduceLT, Int.reduceNe, Int.reduceMul, Int.reduceAdd, Int.reduceSub, Int.reduceDiv, Int.reduceMod, Int.reduceEq, Int.reduceGE, Int.reduceGT, Int.reduceNeg, Int.reduceBEq, Int.reduceBNe, Nat.reduceEqDiff]
      refine ⟨by omega, by omega, ?_⟩
      rw [← List.map_append, show ps.length + (List.map paA b).length = (ps ++ b).length by simp]
      obtain ⟨e', r1, r2, r3⟩ := hb.run e g6 g7
      have := hb.len
      refine ainv (hJ (i + 1, k2, ps ++ b) ⟨by simp only; omega, by simp only; omega, by simp only; omega, by simp only; omega, ⟨e', by rw [runL_append _ _ _ _ g5]; exact r1, r2, r3⟩, fun p hp => ?_, by simp; omega⟩ (by simp only; omega)) (Shift.weak ?_)
      · rcases List.mem_append.1 hp with hp | hp
        · exact g8 p hp
        · exact hb.all p hp
      · simp only [wk, go_sem, Nat.reduceAdd, Nat.reduceMul, Nat.reduceSub, Nat.reduceBEq, Nat.reduceLT, Nat.reduceLeDiff, reduceIte, reduceCtorEq, Int.reduceToNat, Int.reduceLE, Int.reduceLT, Int.reduceNe, Int.reduceMul, Int.reduceAdd, Int.reduceSub, Int.reduceDiv, Int.reduceMod, Int.reduceEq, Int.reduceGE, Int.reduceGT, Int.reduceNeg, Int.reduceBEq, Int.reduceBNe, Nat.reduceEqDiff, List.length_map]
    · have di : decide (i < v) = false := by simp; omega
      refine AWp.shift (Shift.frz 3 rfl (frozen_paras ps)) ?_
      simp only [↓frz_str, frzE, frz, frz1, frzB, List.map_cons, List.map_nil, List.set_cons_succ, List.set_cons_zero, Nat.reduceBEq, cond_true, cond_false, Bool.false_and, Bool.true_and, List.length_map, Nat.zero_add, decide_true, Nat.le_refl, List.drop_zero]
      have : List.take ps.length (List.map paA ps) = List.map paA ps := List.take_of_length_le (by simp)
      simp only [this]
      refine go (N := 27) Tryz.ntmps24 300 ?_
      simp only [go_sem, Nat.reduceAdd, Nat.reduceMul, Nat.reduceSub, Nat.reduceBEq, Nat.reduceLT, Nat.reduceLeDiff, reduceIte, reduceCtorEq, Int.reduceToNat, Int.reduceLE, Int.reduceLT, Int.reduceNe, Int.reduceMul, Int.reduceAdd, Int.reduceSub, Int.reduceDiv, Int.reduceMod, Int.reduceEq, Int.reduceGE, Int.reduceGT, Int.reduceNeg, Int.reduceBEq, Int.reduceBNe, Nat.reduceEqDiff, di]
      exact aretc [.cell 2 63] rfl [_] ⟨by simp only [go_sem, Nat.reduceAdd, Nat.reduceMul, Nat.reduceSub, Nat.reduceBEq, Nat.reduceLT, Nat.reduceLeDiff, reduceIte, reduceCtorEq, Int.reduceToNat, Int.reduceLE, Int.reduceLT, Int.reduceNe, Int.reduceMul, Int.reduceAdd, Int.reduceSub, Int.reduceDiv, Int.reduceMod, Int.reduceEq, Int.reduceGE, Int.reduceGT, Int.reduceNeg, Int.reduceBEq, Int.reduceBNe, Nat.reduceEqDiff, sideIs], trivial⟩ ⟨_, _, rfl, ⟨⟨[], pl, st, tm, ps⟩, k', rfl, ⟨rfl, ⟨hp1, hp2⟩, hst, ⟨ht1, ht2⟩, ⟨e, g5, g6, g7⟩, by simp only; omega, g8⟩, rfl, g3, by omega⟩, rfl, rfl⟩
end Go.Proofs.YtikbgjhajgjjdaaGreatDoor
/- Draws: a script without numbers. Own work of this seat. -/
set_option maxRecDepth 100000
set_option linter.unusedSimpArgs false
set_option linter.unusedVariables false
namespace Go.Proofs.YtikbgjhajgjjdaaGreatDoor
open Go Go.Av Go.RowKit
attribute [local go_sem ↓] br_true br_false dbr_true dbr_false dbri_true dbri_false dbrg_true dbrg_false
attribute [local go_sem] run cont br dbr dx dxc dgrd dyld dres dcall calm fieldPlace? allHas step1 opN grdN resN condN exitN stopN exitIt dOk xop xbin xint xarith xstr xbool xpick xnot xneg xextract xpart xpartOk xindex xfieldF fieldD xnew xbox xalloc xfieldAddr xptrAddIf xindexAddr xloadC xload putCells reElem xstoreB xstore xconv xtext xlen xlen2 xcall xfill xbuild cut rep xbuildSlice xbuildSliceD isRow elemD isU8 ev evs evp Go.Av.put Go.Av.get ofConst yldD yldV notBool_undef args0 cellsOf cond_true cond_false decide_true decide_false decide_eq_true_eq decide_eq_false_iff_not List.getElem?_cons_zero List.getElem?_cons_succ List.getElem?_nil List.getD_cons_zero List.getD_cons_succ List.getD_nil List.set_cons_zero List.set_cons_succ List.length_cons List.length_nil List.cons_append List.nil_append List.append_nil List.all_cons List.all_nil List.map_cons List.map_nil List.take_succ_cons List.take_zero List.drop_succ_cons List.drop_zero Bool.and_true Bool.true_and Bool.and_self Bool.and_false Bool.false_and one Go.Av.frozen beq_self_eq_true true_and and_true forall_const false_implies implies_true and_self Option.map_some Option.map_none Nat.zero_add Nat.add_zero Nat.zero_mul Nat.mul_one Nat.one_mul Int.toNat_zero ne_eq not_false_eq_true not_true_eq_false Bool.true_eq_false Bool.false_eq_true List.toList_toArray inr Go.Av.byteOf isByte decide_eq_decide Bool.not_true Bool.not_false Bool.not_eq_true' Bool.or_true Bool.true_or Bool.or_false Bool.false_or ge_iff_le gt_iff_lt and_assoc Bool.decide_eq_true beq_iff_eq beq_eq_false_iff_ne bne_iff_ne bne_self_eq_false if_true if_false Bool.and_eq_true Bool.or_eq_true Bool.and_eq_false_imp Bool.or_eq_false_iff Bool.not_eq_false' has Option.isSome_some Option.isSome_none Int.toNat_natCast Int.cast_ofNat_Int List.length_append xapp2 xapp xappS xappD xappB notInt srcOf srcB byteAV splice' xcut xcutS xcutF xcutB xcutN xcut0 cutL loOf hiOf evo xmake zelem xmax xcopy2 xcopyS xcopyB xnil xcut3 ixOf xclear2 xclearB List.getElem?_toArray xbin2 xnileq xempty xmkmap xmput xmputB xmputF isKey keyEq mfind xbin3 xeqs xeqop eqFs bothB leafEq xlook xlookB xlookF xbytes beq_c_n beq_n_c bne_c_n bne_n_c one_nil dxi dxic dbri rix dck reader blind opOk refOk Go.Op.operands Go.Call.operands List.contains_cons List.contains_nil dxg dxgc dbrg pck putD List.lookup_cons List.lookup_nil ts2 tb2 zl2 za2 Tryz.underlying2 ts3 tb3 zl3 za3 Tryz.underlying3 ts4 tb4 zl4 za4 Tryz.underlying4 ts5 tb5 zl5 za5 Tryz.underlying5 ts6 tb6 zl6 za6 Tryz.underlying6 ts7 tb7 za7 Tryz.underlying7 ts8 tb8 za8 Tryz.underlying8 ts9 tb9 zl9 za9 Tryz.underlying9 ts10 tb10 zl10 za10 Tryz.underlying10 ts11 tb11 zl11 za11 Tryz.underlying11 ts12 tb12 zl12 za12 Tryz.underlying12 ts13 tb13 za13 Tryz.underlying13 ts14 tb14 za14 Tryz.underlying14 ts18 tb18 za18 Tryz.underlying18 ts19 tb19 za19 Tryz.underlying19 ts21 tb21 zl21 za21 Tryz.underlying21 ts22 tb22 zl22 za22 Tryz.underlying22 ts24 tb24 za24 Tryz.underlying24 ts25 tb25 za25 Tryz.underlying25 ts26 tb26 zl26 za26 Tryz.underlying26 ts27 tb27 za27 Tryz.underlying27 ts28 tb28 za28 Tryz.underlying28 ts30 tb30 zl30 za30 Tryz.underlying30 ts31 tb31 zl31 za31 Tryz.underlying31 ts34 tb34 zl34 za34 Tryz.underlying34 ts35 tb35 zl35 za35 Tryz.underlying35 ts36 tb36 za36 Tryz.underlying36 ts37 tb37 za37 Tryz.underlying37 ts46 tb46 za46 Tryz.underlying46 ts47 tb47 za47 Tryz.underlying47 ts61 tb61 zl61 za61 Tryz.underlying61 ts62 tb62 za62 Tryz.underlying62 ts63 tb63 za63 Tryz.underlying63 ts66 tb66 zl66 za66 Tryz.underlying66 ts68 tb68 zl68 za68 Tryz.underlying68 ts74 tb74 za74 Tryz.underlying74 ts75 tb75 za75 Tryz.underlying75 ts77 tb77 zl77 za77 Tryz.underlying77 ts81 tb81 zl81 za81 Tryz.underlying81 ts82 tb82 za82 Tryz.underlying82 ts83 tb83 za83 Tryz.underlying83 ts86 tb86 zl86 za86 Tryz.underlying86 ts102 tb102 za102 Tryz.underlying102 ts103 tb103 za103 Tryz.underlying103 ts106 tb106 za106 Tryz.underlying106 ts107 tb107 za107 Tryz.underlying107 ts114 tb114 zl114 za114 Tryz.underlying114 ts117 tb117 zl117 za117 Tryz.underlying117 ts120 tb120 zl120 za120 Tryz.underlying120 ts133 tb133 zl133 za133 Tryz.underlying133 ts144 tb144 zl144 za144 Tryz.underlying144 ts151 tb151 zl151 za151 Tryz.underlying151 ts156 tb156 zl156 za156 Tryz.underlying156 ts160 tb160 Tryz.underlying160 ts169 tb169 za169 Tryz.underlying169 ts170 tb170 za170 Tryz.underlying170 ts175 tb175 Tryz.underlying175 ts180 tb180 za180 Tryz.underlying180 ts181 tb181 za181 Tryz.underlying181 ts185 tb185 za185 Tryz.underlying185 ts186 tb186 za186 Tryz.underlying186 ts187 tb187 Tryz.underlying187 ts189 tb189 Tryz.underlying189 ts190 tb190 Tryz.underlying190 ts191 tb191 za191 Tryz.underlying191 ts192 tb192 za192 Tryz.underlying192 ts196 tb196 zl196 za196 Tryz.underlying196 ts197 tb197 zl197 za197 Tryz.underlying197 ts199 tb199 zl199 za199 Tryz.underlying199 ts200 tb200 zl200 za200 Tryz.underlying200 ts201 tb201 za201 Tryz.underlying201 ts202 tb202 za202 Tryz.underlying202

def TitleL : List (List UInt8) := [[84], [84, 104, 101, 32, 77, 105, 108, 108], [65, 32, 45, 32, 66]]

/-- a script that is drawn, without numbers -/
structure DrawnR (x : Sr) : Prop where
  title : x.title ∈ TitleL
  len : x.scenes.length ≤ 5
  all : ∀ y ∈ x.scenes, DrawnS y
  first : ∀ y, x.scenes.head? = some y → y.time ≠ 5

theorem frozen_scenes (ps : List Sc) : (flat (ps.map scA)).all Av.frozen = true := by
  induction ps with
  | nil => rfl
  | cons y l ih => simpa [flat, cellsOf, scA, Av.frozen] using ih

set_option maxHeartbeats 2000000 in
theorem script_mc (L : List Int) (k : Int) (h3 : 0 ≤ k) (h4 : k ≤ 600000) :
    Mc Tryz.prog 12 2 (str L k) [] (fun r s => ∃ (x : Sr) (k' : Int), r = srA x ∧ DrawnR x ∧ s = str L k' ∧ k ≤ k' ∧ k' ≤ k + 30000) := by
  refine ct_intro Tryz.func12 rfl Tryz.ntmps12 hB12 (by simp) fun h ρ w => goF (N := 33) Tryz.ntmps12 300 ?_
  simp only [go_sem, Nat.reduceAdd, Nat.reduceMul, Nat.reduceBEq, Nat.reduceLT, Nat.reduceLeDiff, reduceIte, reduceCtorEq, Int.reduceToNat, Int.reduceLT, Int.reduceGT, Int.reduceNeg, Int.reduceBEq, Int.reduceBNe]
  refine mcall (one_mc L k TitleL (by decide) (by decide) (by omega) (by omega)) rfl rfl (id := 0) rfl (N := 33) Tryz.ntmps12 rfl ?_
  rintro _ _ ⟨⟨ti, hti, rfl⟩, rfl⟩
  refine goF (N := 33) Tryz.ntmps12 300 ?_
  simp only [go_sem, Nat.reduceAdd, Nat.reduceMul, Nat.reduceBEq, Nat.reduceLT, Nat.reduceLeDiff, reduceIte, reduceCtorEq, Int.reduceToNat, Int.reduceLT, Int.reduceGT, Int.reduceNeg, Int.reduceBEq, Int.reduceBNe]
  refine mcall (next_mc L (k + 1) 6 (by omega) (by omega) (by omega) (by omega)) rfl rfl (id := 0) rfl (N := 33) Tryz.ntmps12 rfl ?_
  rintro _ _ ⟨⟨v, rfl, hv0, hv1⟩, rfl⟩
  refine goF (N := 33) Tryz.ntmps12 300 ?_
  simp only [go_sem, Nat.reduceAdd, Nat.reduceMul, Nat.reduceBEq, Nat.reduceLT, Nat.reduceLeDiff, reduceIte, reduceCtorEq, Int.reduceToNat, Int.reduceLT, Int.reduceGT, Int.reduceNeg, Int.reduceBEq, Int.reduceBNe]
  refine aloop (ι := Int × Int × List Sc) (fun x => (v - x.1).toNat)
    (fun x => [(11, .int .i64 x.1), (10, .int .i64 v), (3, .ptr 2 1 0 0), (2, .ptr 1 1 0 0), (0, .ptr 0 1 0 0)])
    (fun x => [.arr 2 [str L x.2.1], .arr 2 [.agg [.str [], .raw (.slice none 0 0)]], .arr 2 [.agg [.str ti, .sl 3 0 x.2.2.length x.2.2.length]], .arr 5 (x.2.2.map scA)])
    (fun x => 0 ≤ x.1 ∧ x.1 ≤ v ∧ k ≤ x.2.1 ∧ x.2.1 ≤ k + 2 + 5000 * x.1 ∧ (x.2.2.length : Int) = x.1 ∧ (∀ y ∈ x.2.2, DrawnS y) ∧ (∀ y, x.2.2.head? = some y → y.time ≠ 5))
    (0, k + 1 + 1, []) ⟨Int.le_refl _, by simp only; omega, by simp only; omega, by simp only; omega, rfl, by simp, by simp⟩ ?_ ?_
  · refine Shift.trans (Shift.cells 2 5 [.agg [.str ti, .sl 3 0 0 0]] rfl rfl (by simp [cellsOf]) ⟨.refl, .sl, trivial⟩) (Shift.weak ?_)
    simp only [wk, go_sem, Nat.reduceAdd, Nat.reduceMul, Nat.reduceBEq, Nat.reduceLT, Nat.reduceLeDiff, reduceIte, reduceCtorEq, Int.reduceToNat, Int.reduceLT, Int.reduceGT, Int.reduceNeg, Int.reduceBEq, Int.reduceBNe]
  · rintro ⟨i, k', xs⟩ ⟨g1, g2, g3, g4, g5, g6, g7⟩ J hJ
    simp only at g1 g2 g3 g4 g5 g6 g7 hJ ⊢
    by_cases gi : i < v
    · have di : decide (i < v) = true := by simp; omega
      refine goF (N := 33) Tryz.ntmps12 300 ?_
      simp only [go_sem, Nat.reduceAdd, Nat.reduceMul, Nat.reduceBEq, Nat.reduceLT, Nat.reduceLeDiff, reduceIte, reduceCtorEq, Int.reduceToNat, Int.reduceLT, Int.reduceGT, Int.reduceNeg, Int.reduceBEq, Int.reduceBNe, di]
      refine mcall (scene_mc L k' (by omega) (by omega)) rfl rfl (id := 0) rfl (N := 33) Tryz.ntmps12 rfl ?_
      rintro _ _ ⟨x, k2, rfl, hx, rfl, t1, t2⟩
      have hlen : (List.map scA xs).length = xs.length := by simp
      have e2 : ∀ a b c d f, List.map scA xs ++ [AV.agg [.str a, .int .i64 b, .str c, .int .i64 d, .fz 2 (List.map paA f)]] = List.map scA (xs ++ [⟨a, b, c, d, f⟩]) := fun _ _ _ _ _ => by simp [scA]
      have e3 : ∀ y : Sc, xs.length + 1 = (xs ++ [y]).length := fun y => by simp
      have fin : ∀ y : Sc, DrawnS y → (xs = [] → y.time ≠ 5) → _ := fun y hy h5 => hJ (i + 1, k2, xs ++ [y]) ⟨by simp only; omega, by simp only; omega, by simp only; omega, by simp only; omega, by simp; omega, fun z hz => by
          rcases List.mem_append.1 hz with hz | hz
          · exact g6 z hz
          · rw [List.mem_singleton.1 hz]; exact hy, fun z hz => by
          cases xs with
          | nil => simp at hz; rw [← hz]; exact h5 rfl
          | cons a r => exact g7 z (by simpa using hz)⟩ (by simp only; omega)
      simp only [scA]
      refine goF (N := 33) Tryz.ntmps12 300 ?_
      by_cases h0 : xs = []
      · have q0 : ((xs.length : Int) == 0) = true := by simp [h0]
        by_cases h5 : x.time = 5
        · have q5 : (x.time == 5) = true := by simpa using h5
          simp only [go_sem, Nat.reduceAdd, Nat.reduceMul, Nat.reduceBEq, Nat.reduceLT, Nat.reduceLeDiff, reduceIte, reduceCtorEq, Int.reduceToNat, Int.reduceLT, Int.reduceGT, Int.reduceNeg, Int.reduceBEq, Int.reduceBNe, q0, q5]
          refine ⟨by simp, by first | omega | (simp; done) | (simp; omega), by first | omega | (simp; done) | (simp; omega), by first | omega | (simp; done) | (simp; omega), by first | omega | (simp; done) | (simp; omega), by omega, by omega, ?_⟩
          rw [e2, e3 ⟨x.no, x.place, x.set, 2, x.paras⟩]
          refine ainv (fin ⟨x.no, x.place, x.set, 2, x.paras⟩ ⟨hx.no, hx.place, hx.set, by simp, hx.run, hx.len, hx.all⟩ (fun _ => by simp)) (Shift.low 4 (by simp) (by simp) ?_ ?_)
          · have := frozen_scenes (xs ++ [⟨x.no, x.place, x.set, 2, x.paras⟩])
            simp only [List.take_succ_cons, List.take_zero, List.all_cons, List.all_nil, lowB, flat, cellsOf, lowC, str, Av.frozen, decide_true, List.append_nil, List.cons_append, List.nil_append, low_all this, Nat.reduceLT, Bool.and_self]
          · simp only [wkl, lowV, lowC, Av.get, go_sem, Nat.reduceAdd, Nat.reduceMul, Nat.reduceBEq, Nat.reduceLT, Nat.reduceLeDiff, reduceIte, reduceCtorEq, Int.reduceToNat, Int.reduceLT, Int.reduceGT, Int.reduceNeg, Int.reduceBEq, Int.reduceBNe]
        · have q5 : (x.time == 5) = false := by simpa using h5
          simp only [go_sem, Nat.reduceAdd, Nat.reduceMul, Nat.reduceBEq, Nat.reduceLT, Nat.reduceLeDiff, reduceIte, reduceCtorEq, Int.reduceToNat, Int.reduceLT, Int.reduceGT, Int.reduceNeg, Int.reduceBEq, Int.reduceBNe, q0, q5]
          refine ⟨by simp, by first | omega | (simp; done) | (simp; omega), by first | omega | (simp; done) | (simp; omega), by first | omega | (simp; done) | (simp; omega), by first | omega | (simp; done) | (simp; omega), by omega, by omega, ?_⟩
          rw [e2, e3 ⟨x.no, x.place, x.set, x.time, x.paras⟩]
          refine ainv (fin ⟨x.no, x.place, x.set, x.time, x.paras⟩ hx (fun _ => h5)) (Shift.low 4 (by simp) (by simp) ?_ ?_)
          · have := frozen_scenes (xs ++ [⟨x.no, x.place, x.set, x.time, x.paras⟩])
            simp only [List.take_succ_cons, List.take_zero, List.all_cons, List.all_nil, lowB, flat, cellsOf, lowC, str, Av.frozen, decide_true, List.append_nil, List.cons_append, List.nil_append, low_all this, Nat.reduceLT, Bool.and_self]
          · simp only [wkl, lowV, lowC, Av.get, go_sem, Nat.reduceAdd, Nat.reduceMul, Nat.reduceBEq, Nat.reduceLT, Nat.reduceLeDiff, reduceIte, reduceCtorEq, Int.reduceToNat, Int.reduceLT, Int.reduceGT, Int.reduceNeg, Int.reduceBEq, Int.reduceBNe]
      · have q0 : ((xs.length : Int) == 0) = false := by
          have : xs.length ≠ 0 := by simpa using h0
          simp; omega
        simp only [go_sem, Nat.reduceAdd, Nat.reduceMul, Nat.reduceBEq, Nat.reduceLT, Nat.reduceLeDiff, reduceIte, reduceCtorEq, Int.reduceToNat, Int.reduceLT, Int.reduceGT, Int.reduceNeg, Int.reduceBEq, Int.reduceBNe, q0]
        refine ⟨by simp, by first | omega | (simp; done) | (simp; omega), by first | omega | (simp; done) | (simp; omega), by first | omega | (simp; done) | (simp; omega), by first | omega | (simp; done) | (simp; omega), by omega, by omega, ?_⟩
        rw [e2, e3 ⟨x.no, x.place, x.set, x.time, x.paras⟩]
        refine ainv (fin ⟨x.no, x.place, x.set, x.time, x.paras⟩ hx (fun h => (h0 h).elim)) (Shift.low 4 (by simp) (by simp) ?_ ?_)
        · have := frozen_scenes (xs ++ [⟨x.no, x.place, x.set, x.time, x.paras⟩])
          simp only [List.take_succ_cons, List.take_zero, List.all_cons, List.all_nil, lowB, flat, cellsOf, lowC, str, Av.frozen, decide_true, List.append_nil, List.cons_append, List.nil_append, low_all this, Nat.reduceLT, Bool.and_self]
        · simp only [wkl, lowV, lowC, Av.get, go_sem, Nat.reduceAdd, Nat.reduceMul, Nat.reduceBEq, Nat.reduceLT, Nat.reduceLeDiff, reduceIte, reduceCtorEq, Int.reduceToNat, Int.reduceLT, Int.reduceGT, Int.reduceNeg, Int.reduceBEq, Int.reduceBNe]
    · have di : decide (i < v) = false := by simp; omega
      refine AWp.shift (Shift.frz 3 rfl (frozen_scenes xs)) ?_
      simp only [↓frz_str, frzE, frz, frz1, frzB, List.map_cons, List.map_nil, List.set_cons_succ, List.set_cons_zero, Nat.reduceBEq, cond_true, cond_false, Bool.false_and, Bool.true_and, List.length_map, Nat.zero_add, decide_true, Nat.le_refl, List.drop_zero]
      have : List.take xs.length (List.map scA xs) = List.map scA xs := List.take_of_length_le (by simp)
      simp only [this]
      refine go (N := 33) Tryz.ntmps12 300 ?_
      simp only [go_sem, Nat.reduceAdd, Nat.reduceMul, Nat.reduceBEq, Nat.reduceLT, Nat.reduceLeDiff, reduceIte, reduceCtorEq, Int.reduceToNat, Int.reduceLT, Int.reduceGT, Int.reduceNeg, Int.reduceBEq, Int.reduceBNe, di]
      exact aretc [.cell 2 28] rfl [_] ⟨by simp only [go_sem, Nat.reduceAdd, Nat.reduceMul, Nat.reduceBEq, Nat.reduceLT, Nat.reduceLeDiff, reduceIte, reduceCtorEq, Int.reduceToNat, Int.reduceLT, Int.reduceGT, Int.reduceNeg, Int.reduceBEq, Int.reduceBNe, sideIs], trivial⟩ ⟨_, _, rfl, ⟨⟨ti, xs⟩, k', rfl, ⟨hti, by simp only; omega, g6, g7⟩, rfl, g3, by omega⟩, rfl, rfl⟩
end Go.Proofs.YtikbgjhajgjjdaaGreatDoor
