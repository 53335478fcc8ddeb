/- Headings, paragraphs and scenes, at the constants of the law's own script. Own work of this seat. -/
import Derived.Test.YtpjbbpilgfihbaaDoorBd
import Derived.Test.YtpjbbpilgfihbaaDoorSh2
set_option maxRecDepth 100000
set_option linter.unusedSimpArgs false
set_option linter.unusedVariables false
namespace Go.Proofs.YtpjbbpilgfihbaaDoor
open Go Go.Av Go.RowKit
attribute [local go_sem ↓] br_true br_false dbr_true dbr_false
attribute [local go_sem] run cont br dbr dx dxc dgrd dyld dres dcall calm fieldPlace? allHas step1 opN grdN resN condN exitN stopN exitIt dOk xop xbin xint xarith xstr xbool xpick xnot xneg xextract xpart xpartOk xindex xfieldF fieldD xnew xbox xalloc xfieldAddr xptrAddIf xindexAddr xloadC xload putCells reElem xstoreB xstore xconv xtext xlen xlen2 xcall xfill xbuild cut rep xbuildSlice xbuildSliceD isRow elemD isU8 ev evs evp Go.Av.put Go.Av.get ofConst yldD yldV args0 cellsOf cond_true cond_false decide_true decide_false decide_eq_true_eq decide_eq_false_iff_not List.getElem?_cons_zero List.getElem?_cons_succ List.getElem?_nil List.getD_cons_zero List.getD_cons_succ List.getD_nil List.set_cons_zero List.set_cons_succ List.length_cons List.length_nil List.cons_append List.nil_append List.append_nil List.all_cons List.all_nil List.map_cons List.map_nil List.take_succ_cons List.take_zero List.drop_succ_cons List.drop_zero Bool.and_true Bool.true_and Bool.and_self Bool.and_false Bool.false_and one Go.Av.frozen beq_self_eq_true true_and and_true forall_const false_implies implies_true and_self Option.map_some Option.map_none Nat.zero_add Nat.add_zero Nat.zero_mul Nat.mul_one Nat.one_mul Int.toNat_zero ne_eq not_false_eq_true not_true_eq_false Bool.true_eq_false Bool.false_eq_true List.toList_toArray inr Go.Av.byteOf isByte decide_eq_decide Bool.not_true Bool.not_false Bool.not_eq_true' Bool.or_true Bool.true_or Bool.or_false Bool.false_or ge_iff_le gt_iff_lt and_assoc Bool.decide_eq_true beq_iff_eq beq_eq_false_iff_ne bne_iff_ne bne_self_eq_false if_true if_false Bool.and_eq_true Bool.or_eq_true Bool.and_eq_false_imp Bool.or_eq_false_iff Bool.not_eq_false' has Option.isSome_some Option.isSome_none Int.toNat_natCast Int.cast_ofNat_Int List.length_append xapp2 xapp xappS xappD xappB notInt srcOf srcB byteAV splice' xcut xcutS xcutF xcutB xcutN xcut0 cutL loOf hiOf evo xmake zelem xmax xcopy2 xcopyS xcopyB xnil xcut3 ixOf xclear2 xclearB List.getElem?_toArray xbin2 xnileq xempty xmkmap xmput xmputB xmputF isKey keyEq mfind xbin3 xeqs xeqop eqFs bothB leafEq

theorem b68 : hasBody Tryd.prog 68 = true := by kernel_rfl
theorem b69 : hasBody Tryd.prog 69 = true := by kernel_rfl
theorem b45 : hasBody Tryd.prog 45 = true := by kernel_rfl
theorem b70 : hasBody Tryd.prog 70 = true := by kernel_rfl
theorem b46 : hasBody Tryd.prog 46 = true := by kernel_rfl
theorem b66 : hasBody Tryd.prog 66 = true := by kernel_rfl
theorem b65 : hasBody Tryd.prog 65 = true := by kernel_rfl
theorem b43 : hasBody Tryd.prog 43 = true := by kernel_rfl

theorem ts81 : tsize Tryd.prog 81 = 5 := by kernel_rfl
theorem ts94 : tsize Tryd.prog 94 = 2 := by kernel_rfl
theorem ts57 : tsize Tryd.prog 57 = 2 := by kernel_rfl
theorem ts67 : tsize Tryd.prog 67 = 3 := by kernel_rfl
theorem ts30 : tsize Tryd.prog 30 = 1 := by kernel_rfl
theorem ts79 : tsize Tryd.prog 79 = 1 := by kernel_rfl
theorem ts55 : tsize Tryd.prog 55 = 1 := by kernel_rfl

theorem za81 : zav Tryd.prog 81 = [.str [], .int .i64 0, .str [], .int .i64 0, .raw (.slice none 0 0)] := by kernel_rfl
theorem za94 : zav Tryd.prog 94 = [.int .i64 0, .str []] := by kernel_rfl
theorem za57 : zav Tryd.prog 57 = [.str [], .raw (.slice none 0 0)] := by kernel_rfl
theorem za67 : zav Tryd.prog 67 = [.str [], .raw (.slice none 0 0), .int .i64 0] := by kernel_rfl

theorem tb81 : tbytes Tryd.prog 81 = 72 := by kernel_rfl
theorem tb94 : tbytes Tryd.prog 94 = 24 := by kernel_rfl
theorem one_nil : (Value.slice none 0 0).oneCell' = true := rfl
theorem beq_c_n {a : UInt8} {l : List UInt8} : ((a :: l) == []) = false := rfl
theorem beq_n_c {a : UInt8} {l : List UInt8} : (([] : List UInt8) == (a :: l)) = false := rfl
theorem beq_c_c {a b : UInt8} {l r : List UInt8} : ((a :: l) == (b :: r)) = (a == b && l == r) := rfl
theorem bne_c_n {a : UInt8} {l : List UInt8} : ((a :: l) != []) = true := rfl
theorem bne_n_c {a : UInt8} {l : List UInt8} : (([] : List UInt8) != (a :: l)) = true := rfl
theorem bne_c_c {a b : UInt8} {l r : List UInt8} : ((a :: l) != (b :: r)) = !(a == b && l == r) := rfl

def placeW : List AV := [.str [], .str [73, 78, 84, 46], .str [69, 88, 84, 46], .str [73, 78, 84, 46, 47, 69, 88, 84, 46]]
def timeW : List AV := [.str [], .str [68, 65, 89], .str [78, 73, 71, 72, 84], .str [68, 65, 87, 78], .str [68, 85, 83, 75], .str [76, 65, 84, 69, 82]]

theorem place_pc : Pc Tryd.prog 68 [] (· = .fz 1 placeW) := by
  refine pc_intro (ct_intro Tryd.func68 rfl Tryd.ntmps68 b68 (by simp) fun h ρ w => goF (N := 2) Tryd.ntmps68 200 ?_)
  simp only [go_sem, Nat.reduceAdd, Nat.reduceMul, Nat.reduceSub, Nat.reduceBEq, Nat.reduceLT, Nat.reduceLeDiff, reduceIte, reduceCtorEq, Int.reduceToNat, Int.reduceLE, Int.reduceLT, Int.reduceNe, Int.reduceMul, Int.reduceAdd, Int.reduceSub, Int.reduceDiv, Int.reduceMod, Int.reduceEq, Int.reduceGE, Int.reduceGT, Int.reduceNeg, Int.reduceBEq, Int.reduceBNe, Nat.reduceEqDiff, Tryd.underlying82, Tryd.underlying3, Tryd.underlying4, Tryd.underlying5, Tryd.underlying9, Tryd.underlying26, Tryd.underlying30, Tryd.underlying55, Tryd.underlying57, Tryd.underlying67, Tryd.underlying79, Tryd.underlying81, Tryd.underlying94, ts3, ts9, ts26, za9, tb9, ts81, ts94, ts57, ts67, ts30, ts79, ts55, za81, za94, za57, za67, beq_c_n, beq_n_c, bne_c_n, bne_n_c, one_nil]
  exact aret [0] rfl ⟨by simp [resV, Av.get, placeW], rfl⟩

theorem time_pc : Pc Tryd.prog 69 [] (· = .fz 1 timeW) := by
  refine pc_intro (ct_intro Tryd.func69 rfl Tryd.ntmps69 b69 (by simp) fun h ρ w => goF (N := 2) Tryd.ntmps69 200 ?_)
  simp only [go_sem, Nat.reduceAdd, Nat.reduceMul, Nat.reduceSub, Nat.reduceBEq, Nat.reduceLT, Nat.reduceLeDiff, reduceIte, reduceCtorEq, Int.reduceToNat, Int.reduceLE, Int.reduceLT, Int.reduceNe, Int.reduceMul, Int.reduceAdd, Int.reduceSub, Int.reduceDiv, Int.reduceMod, Int.reduceEq, Int.reduceGE, Int.reduceGT, Int.reduceNeg, Int.reduceBEq, Int.reduceBNe, Nat.reduceEqDiff, Tryd.underlying82, Tryd.underlying3, Tryd.underlying4, Tryd.underlying5, Tryd.underlying9, Tryd.underlying26, Tryd.underlying30, Tryd.underlying55, Tryd.underlying57, Tryd.underlying67, Tryd.underlying79, Tryd.underlying81, Tryd.underlying94, ts3, ts9, ts26, za9, tb9, ts81, ts94, ts57, ts67, ts30, ts79, ts55, za81, za94, za57, za67, beq_c_n, beq_n_c, bne_c_n, bne_n_c, one_nil]
  exact aret [0] rfl ⟨by simp [resV, Av.get, timeW], rfl⟩

def rain : List UInt8 := [82, 97, 105, 110, 46]
def paraA : AV := .agg [.int .i64 1, .str [82, 97, 105, 110, 46]]
def sceneA : AV := .agg [.str [], .int .i64 1, .str [72, 65, 76, 76], .int .i64 1, .fz 2 [.agg [.int .i64 1, .str [82, 97, 105, 110, 46]]]]
theorem heading_pc : Pc Tryd.prog 45 [sceneA] (· = .str [73, 78, 84, 46, 32, 72, 65, 76, 76, 32, 45, 32, 68, 65, 89]) := by
  refine pc_intro (ct_intro Tryd.func45 rfl Tryd.ntmps45 b45 (by simp) fun h ρ w => go (N := 29) Tryd.ntmps45 200 ?_)
  simp only [go_sem, Nat.reduceAdd, Nat.reduceMul, Nat.reduceSub, Nat.reduceBEq, Nat.reduceLT, Nat.reduceLeDiff, reduceIte, reduceCtorEq, Int.reduceToNat, Int.reduceLE, Int.reduceLT, Int.reduceNe, Int.reduceMul, Int.reduceAdd, Int.reduceSub, Int.reduceDiv, Int.reduceMod, Int.reduceEq, Int.reduceGE, Int.reduceGT, Int.reduceNeg, Int.reduceBEq, Int.reduceBNe, Nat.reduceEqDiff, Tryd.underlying82, Tryd.underlying3, Tryd.underlying4, Tryd.underlying5, Tryd.underlying9, Tryd.underlying26, Tryd.underlying30, Tryd.underlying55, Tryd.underlying57, Tryd.underlying67, Tryd.underlying79, Tryd.underlying81, Tryd.underlying94, ts3, ts9, ts26, za9, tb9, ts81, ts94, ts57, ts67, ts30, ts79, ts55, za81, za94, za57, za67, beq_c_n, beq_n_c, bne_c_n, bne_n_c, one_nil, sceneA]
  refine adraw [.fz 1 placeW, .fz 1 timeW] mixed (by decide) (N := 29) Tryd.ntmps45 (by decide) 100 ?_
  simp only [go_sem, Nat.reduceAdd, Nat.reduceMul, Nat.reduceSub, Nat.reduceBEq, Nat.reduceLT, Nat.reduceLeDiff, reduceIte, reduceCtorEq, Int.reduceToNat, Int.reduceLE, Int.reduceLT, Int.reduceNe, Int.reduceMul, Int.reduceAdd, Int.reduceSub, Int.reduceDiv, Int.reduceMod, Int.reduceEq, Int.reduceGE, Int.reduceGT, Int.reduceNeg, Int.reduceBEq, Int.reduceBNe, Nat.reduceEqDiff, Tryd.underlying82, Tryd.underlying3, Tryd.underlying4, Tryd.underlying5, Tryd.underlying9, Tryd.underlying26, Tryd.underlying30, Tryd.underlying55, Tryd.underlying57, Tryd.underlying67, Tryd.underlying79, Tryd.underlying81, Tryd.underlying94, ts3, ts9, ts26, za9, tb9, ts81, ts94, ts57, ts67, ts30, ts79, ts55, za81, za94, za57, za67, beq_c_n, beq_n_c, bne_c_n, bne_n_c, one_nil, sceneA, placeW, timeW]
  refine ⟨place_pc, time_pc, ?_⟩
  refine go (N := 29) Tryd.ntmps45 200 ?_
  simp only [go_sem, Nat.reduceAdd, Nat.reduceMul, Nat.reduceSub, Nat.reduceBEq, Nat.reduceLT, Nat.reduceLeDiff, reduceIte, reduceCtorEq, Int.reduceToNat, Int.reduceLE, Int.reduceLT, Int.reduceNe, Int.reduceMul, Int.reduceAdd, Int.reduceSub, Int.reduceDiv, Int.reduceMod, Int.reduceEq, Int.reduceGE, Int.reduceGT, Int.reduceNeg, Int.reduceBEq, Int.reduceBNe, Nat.reduceEqDiff, Tryd.underlying82, Tryd.underlying3, Tryd.underlying4, Tryd.underlying5, Tryd.underlying9, Tryd.underlying26, Tryd.underlying30, Tryd.underlying55, Tryd.underlying57, Tryd.underlying67, Tryd.underlying79, Tryd.underlying81, Tryd.underlying94, ts3, ts9, ts26, za9, tb9, ts81, ts94, ts57, ts67, ts30, ts79, ts55, za81, za94, za57, za67, beq_c_n, beq_n_c, bne_c_n, bne_n_c, one_nil, sceneA]
  exact aret [2] rfl ⟨by simp [resV, Av.get], rfl⟩

theorem escaped_pc (c : UInt8) (s o : List UInt8) (hs : s.length < 1000000) (hn : Lib.indexByte o c < 0) : Pc Tryd.prog 70 [.str (c :: s), .str o] (· = .str (c :: s)) := by
  refine pc_intro (ct_intro Tryd.func70 rfl Tryd.ntmps70 b70 (by simp) fun h ρ w => go (N := 13) Tryd.ntmps70 200 ?_)
  simp only [go_sem, Nat.reduceAdd, Nat.reduceMul, Nat.reduceSub, Nat.reduceBEq, Nat.reduceLT, Nat.reduceLeDiff, reduceIte, reduceCtorEq, Int.reduceToNat, Int.reduceLE, Int.reduceLT, Int.reduceNe, Int.reduceMul, Int.reduceAdd, Int.reduceSub, Int.reduceDiv, Int.reduceMod, Int.reduceEq, Int.reduceGE, Int.reduceGT, Int.reduceNeg, Int.reduceBEq, Int.reduceBNe, Nat.reduceEqDiff, Tryd.underlying82, Tryd.underlying3, Tryd.underlying4, Tryd.underlying5, Tryd.underlying9, Tryd.underlying26, Tryd.underlying30, Tryd.underlying55, Tryd.underlying57, Tryd.underlying67, Tryd.underlying79, Tryd.underlying81, Tryd.underlying94, ts3, ts9, ts26, za9, tb9, ts81, ts94, ts57, ts67, ts30, ts79, ts55, za81, za94, za57, za67, beq_c_n, beq_n_c, bne_c_n, bne_n_c, one_nil]
  refine ⟨by omega, ?_⟩
  refine pcall1 (indexByte_pc o (c.toNat : Int)) rfl (N := 13) Tryd.ntmps70 rfl (go (N := 13) Tryd.ntmps70 300 ?_)
  have h0 : decide (0 ≤ Lib.indexByte o c.toNat.toUInt8) = false := by simp; omega
  simp only [go_sem, Nat.reduceAdd, Nat.reduceMul, Nat.reduceSub, Nat.reduceBEq, Nat.reduceLT, Nat.reduceLeDiff, reduceIte, reduceCtorEq, Int.reduceToNat, Int.reduceLE, Int.reduceLT, Int.reduceNe, Int.reduceMul, Int.reduceAdd, Int.reduceSub, Int.reduceDiv, Int.reduceMod, Int.reduceEq, Int.reduceGE, Int.reduceGT, Int.reduceNeg, Int.reduceBEq, Int.reduceBNe, Nat.reduceEqDiff, Tryd.underlying82, Tryd.underlying3, Tryd.underlying4, Tryd.underlying5, Tryd.underlying9, Tryd.underlying26, Tryd.underlying30, Tryd.underlying55, Tryd.underlying57, Tryd.underlying67, Tryd.underlying79, Tryd.underlying81, Tryd.underlying94, ts3, ts9, ts26, za9, tb9, ts81, ts94, ts57, ts67, ts30, ts79, ts55, za81, za94, za57, za67, beq_c_n, beq_n_c, bne_c_n, bne_n_c, one_nil, h0]
  exact aret [4] rfl ⟨by simp [resV, Av.get], rfl⟩

theorem para_pc : Pc Tryd.prog 46 [paraA] (· = .str [82, 97, 105, 110, 46]) := by
  refine pc_intro (ct_intro Tryd.func46 rfl Tryd.ntmps46 b46 (by simp) fun h ρ w => go (N := 29) Tryd.ntmps46 200 ?_)
  simp only [go_sem, Nat.reduceAdd, Nat.reduceMul, Nat.reduceSub, Nat.reduceBEq, Nat.reduceLT, Nat.reduceLeDiff, reduceIte, reduceCtorEq, Int.reduceToNat, Int.reduceLE, Int.reduceLT, Int.reduceNe, Int.reduceMul, Int.reduceAdd, Int.reduceSub, Int.reduceDiv, Int.reduceMod, Int.reduceEq, Int.reduceGE, Int.reduceGT, Int.reduceNeg, Int.reduceBEq, Int.reduceBNe, Nat.reduceEqDiff, Tryd.underlying82, Tryd.underlying3, Tryd.underlying4, Tryd.underlying5, Tryd.underlying9, Tryd.underlying26, Tryd.underlying30, Tryd.underlying55, Tryd.underlying57, Tryd.underlying67, Tryd.underlying79, Tryd.underlying81, Tryd.underlying94, ts3, ts9, ts26, za9, tb9, ts81, ts94, ts57, ts67, ts30, ts79, ts55, za81, za94, za57, za67, beq_c_n, beq_n_c, bne_c_n, bne_n_c, one_nil, paraA]
  refine pcall1 (escaped_pc 82 [97, 105, 110, 46] [64, 62, 35, 92] (by decide) (by decide)) rfl (N := 29) Tryd.ntmps46 rfl (go (N := 29) Tryd.ntmps46 300 ?_)
  simp only [go_sem, Nat.reduceAdd, Nat.reduceMul, Nat.reduceSub, Nat.reduceBEq, Nat.reduceLT, Nat.reduceLeDiff, reduceIte, reduceCtorEq, Int.reduceToNat, Int.reduceLE, Int.reduceLT, Int.reduceNe, Int.reduceMul, Int.reduceAdd, Int.reduceSub, Int.reduceDiv, Int.reduceMod, Int.reduceEq, Int.reduceGE, Int.reduceGT, Int.reduceNeg, Int.reduceBEq, Int.reduceBNe, Nat.reduceEqDiff, Tryd.underlying82, Tryd.underlying3, Tryd.underlying4, Tryd.underlying5, Tryd.underlying9, Tryd.underlying26, Tryd.underlying30, Tryd.underlying55, Tryd.underlying57, Tryd.underlying67, Tryd.underlying79, Tryd.underlying81, Tryd.underlying94, ts3, ts9, ts26, za9, tb9, ts81, ts94, ts57, ts67, ts30, ts79, ts55, za81, za94, za57, za67, beq_c_n, beq_n_c, bne_c_n, bne_n_c, one_nil]
  exact aret [2] rfl ⟨by simp [resV, Av.get], rfl⟩

theorem follows_pc : Pc Tryd.prog 66 [.int .i64 1, .int .i64 0] (· = .bool true) := by
  refine pc_intro (ct_intro Tryd.func66 rfl Tryd.ntmps66 b66 (by simp) fun h ρ w => go (N := 33) Tryd.ntmps66 200 ?_)
  simp only [go_sem, Nat.reduceAdd, Nat.reduceMul, Nat.reduceSub, Nat.reduceBEq, Nat.reduceLT, Nat.reduceLeDiff, reduceIte, reduceCtorEq, Int.reduceToNat, Int.reduceLE, Int.reduceLT, Int.reduceNe, Int.reduceMul, Int.reduceAdd, Int.reduceSub, Int.reduceDiv, Int.reduceMod, Int.reduceEq, Int.reduceGE, Int.reduceGT, Int.reduceNeg, Int.reduceBEq, Int.reduceBNe, Nat.reduceEqDiff, Tryd.underlying82, Tryd.underlying3, Tryd.underlying4, Tryd.underlying5, Tryd.underlying9, Tryd.underlying26, Tryd.underlying30, Tryd.underlying55, Tryd.underlying57, Tryd.underlying67, Tryd.underlying79, Tryd.underlying81, Tryd.underlying94, ts3, ts9, ts26, za9, tb9, ts81, ts94, ts57, ts67, ts30, ts79, ts55, za81, za94, za57, za67, beq_c_n, beq_n_c, bne_c_n, bne_n_c, one_nil]
  exact aret [4] rfl ⟨by simp [resV, Av.get], rfl⟩

theorem fault_pch (m : Int) : PcH Tryd.prog (gm m) 65 [paraA] (· = .int .i64 0) := by
  refine pch_intro (cth_intro Tryd.func65 rfl Tryd.ntmps65 b65 (by simp) fun h ρ w hg => go (N := 66) Tryd.ntmps65 200 ?_)
  simp only [go_sem, Nat.reduceAdd, Nat.reduceMul, Nat.reduceSub, Nat.reduceBEq, Nat.reduceLT, Nat.reduceLeDiff, reduceIte, reduceCtorEq, Int.reduceToNat, Int.reduceLE, Int.reduceLT, Int.reduceNe, Int.reduceMul, Int.reduceAdd, Int.reduceSub, Int.reduceDiv, Int.reduceMod, Int.reduceEq, Int.reduceGE, Int.reduceGT, Int.reduceNeg, Int.reduceBEq, Int.reduceBNe, Nat.reduceEqDiff, Tryd.underlying82, Tryd.underlying3, Tryd.underlying4, Tryd.underlying5, Tryd.underlying9, Tryd.underlying26, Tryd.underlying30, Tryd.underlying55, Tryd.underlying57, Tryd.underlying67, Tryd.underlying79, Tryd.underlying81, Tryd.underlying94, ts3, ts9, ts26, za9, tb9, ts81, ts94, ts57, ts67, ts30, ts79, ts55, za81, za94, za57, za67, beq_c_n, beq_n_c, bne_c_n, bne_n_c, one_nil, paraA]
  refine pcallH1 hg (plain_pch m [82, 97, 105, 110, 46] (by decide)) rfl (N := 66) Tryd.ntmps65 rfl (go (N := 66) Tryd.ntmps65 300 ?_)
  have hp : plainL [82, 97, 105, 110, 46] = true := by decide
  simp only [go_sem, Nat.reduceAdd, Nat.reduceMul, Nat.reduceSub, Nat.reduceBEq, Nat.reduceLT, Nat.reduceLeDiff, reduceIte, reduceCtorEq, Int.reduceToNat, Int.reduceLE, Int.reduceLT, Int.reduceNe, Int.reduceMul, Int.reduceAdd, Int.reduceSub, Int.reduceDiv, Int.reduceMod, Int.reduceEq, Int.reduceGE, Int.reduceGT, Int.reduceNeg, Int.reduceBEq, Int.reduceBNe, Nat.reduceEqDiff, Tryd.underlying82, Tryd.underlying3, Tryd.underlying4, Tryd.underlying5, Tryd.underlying9, Tryd.underlying26, Tryd.underlying30, Tryd.underlying55, Tryd.underlying57, Tryd.underlying67, Tryd.underlying79, Tryd.underlying81, Tryd.underlying94, ts3, ts9, ts26, za9, tb9, ts81, ts94, ts57, ts67, ts30, ts79, ts55, za81, za94, za57, za67, beq_c_n, beq_n_c, bne_c_n, bne_n_c, one_nil, hp]
  exact aret [2] rfl ⟨by simp [resV, Av.get], rfl⟩

theorem scene_pch (m : Int) : PcH Tryd.prog (gm m) 43 [sceneA] (· = .int .i64 0) := by
  refine pch_intro (cth_intro Tryd.func43 rfl Tryd.ntmps43 b43 (by simp) fun h ρ w hg => go (N := 37) Tryd.ntmps43 200 ?_)
  simp only [go_sem, Nat.reduceAdd, Nat.reduceMul, Nat.reduceSub, Nat.reduceBEq, Nat.reduceLT, Nat.reduceLeDiff, reduceIte, reduceCtorEq, Int.reduceToNat, Int.reduceLE, Int.reduceLT, Int.reduceNe, Int.reduceMul, Int.reduceAdd, Int.reduceSub, Int.reduceDiv, Int.reduceMod, Int.reduceEq, Int.reduceGE, Int.reduceGT, Int.reduceNeg, Int.reduceBEq, Int.reduceBNe, Nat.reduceEqDiff, Tryd.underlying82, Tryd.underlying3, Tryd.underlying4, Tryd.underlying5, Tryd.underlying9, Tryd.underlying26, Tryd.underlying30, Tryd.underlying55, Tryd.underlying57, Tryd.underlying67, Tryd.underlying79, Tryd.underlying81, Tryd.underlying94, ts3, ts9, ts26, za9, tb9, ts81, ts94, ts57, ts67, ts30, ts79, ts55, za81, za94, za57, za67, beq_c_n, beq_n_c, bne_c_n, bne_n_c, one_nil, sceneA]
  refine pcallH1 hg (isSet_pch m [72, 65, 76, 76] (by decide)) rfl (N := 37) Tryd.ntmps43 rfl (go (N := 37) Tryd.ntmps43 300 ?_)
  have hp : isSetL [72, 65, 76, 76] = true := by decide
  simp only [go_sem, Nat.reduceAdd, Nat.reduceMul, Nat.reduceSub, Nat.reduceBEq, Nat.reduceLT, Nat.reduceLeDiff, reduceIte, reduceCtorEq, Int.reduceToNat, Int.reduceLE, Int.reduceLT, Int.reduceNe, Int.reduceMul, Int.reduceAdd, Int.reduceSub, Int.reduceDiv, Int.reduceMod, Int.reduceEq, Int.reduceGE, Int.reduceGT, Int.reduceNeg, Int.reduceBEq, Int.reduceBNe, Nat.reduceEqDiff, Tryd.underlying82, Tryd.underlying3, Tryd.underlying4, Tryd.underlying5, Tryd.underlying9, Tryd.underlying26, Tryd.underlying30, Tryd.underlying55, Tryd.underlying57, Tryd.underlying67, Tryd.underlying79, Tryd.underlying81, Tryd.underlying94, ts3, ts9, ts26, za9, tb9, ts81, ts94, ts57, ts67, ts30, ts79, ts55, za81, za94, za57, za67, beq_c_n, beq_n_c, bne_c_n, bne_n_c, one_nil, hp]
  refine aenter (around (go (N := 37) Tryd.ntmps43 300 ?_))
  simp only [go_sem, Nat.reduceAdd, Nat.reduceMul, Nat.reduceSub, Nat.reduceBEq, Nat.reduceLT, Nat.reduceLeDiff, reduceIte, reduceCtorEq, Int.reduceToNat, Int.reduceLE, Int.reduceLT, Int.reduceNe, Int.reduceMul, Int.reduceAdd, Int.reduceSub, Int.reduceDiv, Int.reduceMod, Int.reduceEq, Int.reduceGE, Int.reduceGT, Int.reduceNeg, Int.reduceBEq, Int.reduceBNe, Nat.reduceEqDiff, Tryd.underlying82, Tryd.underlying3, Tryd.underlying4, Tryd.underlying5, Tryd.underlying9, Tryd.underlying26, Tryd.underlying30, Tryd.underlying55, Tryd.underlying57, Tryd.underlying67, Tryd.underlying79, Tryd.underlying81, Tryd.underlying94, ts3, ts9, ts26, za9, tb9, ts81, ts94, ts57, ts67, ts30, ts79, ts55, za81, za94, za57, za67, beq_c_n, beq_n_c, bne_c_n, bne_n_c, one_nil]
  refine pcallH1 hg (fault_pch m) rfl (N := 37) Tryd.ntmps43 rfl (go (N := 37) Tryd.ntmps43 300 ?_)
  simp only [go_sem, Nat.reduceAdd, Nat.reduceMul, Nat.reduceSub, Nat.reduceBEq, Nat.reduceLT, Nat.reduceLeDiff, reduceIte, reduceCtorEq, Int.reduceToNat, Int.reduceLE, Int.reduceLT, Int.reduceNe, Int.reduceMul, Int.reduceAdd, Int.reduceSub, Int.reduceDiv, Int.reduceMod, Int.reduceEq, Int.reduceGE, Int.reduceGT, Int.reduceNeg, Int.reduceBEq, Int.reduceBNe, Nat.reduceEqDiff, Tryd.underlying82, Tryd.underlying3, Tryd.underlying4, Tryd.underlying5, Tryd.underlying9, Tryd.underlying26, Tryd.underlying30, Tryd.underlying55, Tryd.underlying57, Tryd.underlying67, Tryd.underlying79, Tryd.underlying81, Tryd.underlying94, ts3, ts9, ts26, za9, tb9, ts81, ts94, ts57, ts67, ts30, ts79, ts55, za81, za94, za57, za67, beq_c_n, beq_n_c, bne_c_n, bne_n_c, one_nil]
  refine pcall1 follows_pc rfl (N := 37) Tryd.ntmps43 rfl (go (N := 37) Tryd.ntmps43 300 ?_)
  simp only [go_sem, Nat.reduceAdd, Nat.reduceMul, Nat.reduceSub, Nat.reduceBEq, Nat.reduceLT, Nat.reduceLeDiff, reduceIte, reduceCtorEq, Int.reduceToNat, Int.reduceLE, Int.reduceLT, Int.reduceNe, Int.reduceMul, Int.reduceAdd, Int.reduceSub, Int.reduceDiv, Int.reduceMod, Int.reduceEq, Int.reduceGE, Int.reduceGT, Int.reduceNeg, Int.reduceBEq, Int.reduceBNe, Nat.reduceEqDiff, Tryd.underlying82, Tryd.underlying3, Tryd.underlying4, Tryd.underlying5, Tryd.underlying9, Tryd.underlying26, Tryd.underlying30, Tryd.underlying55, Tryd.underlying57, Tryd.underlying67, Tryd.underlying79, Tryd.underlying81, Tryd.underlying94, ts3, ts9, ts26, za9, tb9, ts81, ts94, ts57, ts67, ts30, ts79, ts55, za81, za94, za57, za67, beq_c_n, beq_n_c, bne_c_n, bne_n_c, one_nil]
  refine aagain (around (go (N := 37) Tryd.ntmps43 300 ?_))
  simp only [go_sem, Nat.reduceAdd, Nat.reduceMul, Nat.reduceSub, Nat.reduceBEq, Nat.reduceLT, Nat.reduceLeDiff, reduceIte, reduceCtorEq, Int.reduceToNat, Int.reduceLE, Int.reduceLT, Int.reduceNe, Int.reduceMul, Int.reduceAdd, Int.reduceSub, Int.reduceDiv, Int.reduceMod, Int.reduceEq, Int.reduceGE, Int.reduceGT, Int.reduceNeg, Int.reduceBEq, Int.reduceBNe, Nat.reduceEqDiff, Tryd.underlying82, Tryd.underlying3, Tryd.underlying4, Tryd.underlying5, Tryd.underlying9, Tryd.underlying26, Tryd.underlying30, Tryd.underlying55, Tryd.underlying57, Tryd.underlying67, Tryd.underlying79, Tryd.underlying81, Tryd.underlying94, ts3, ts9, ts26, za9, tb9, ts81, ts94, ts57, ts67, ts30, ts79, ts55, za81, za94, za57, za67, beq_c_n, beq_n_c, bne_c_n, bne_n_c, one_nil]
  exact aret [2] rfl ⟨by simp [resV, Av.get], rfl⟩
end Go.Proofs.YtpjbbpilgfihbaaDoor
