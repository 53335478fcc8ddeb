/- Rename, walked. Own work of this seat. -/
import Derived.Test.YtpjbbpilgfihbaaGreatDoorN10
import Derived.Test.YtpjbbpilgfihbaaGreatDoorN8
import Derived.Test.YtpjbbpilgfihbaaGreatDoorN6
import Derived.Test.YtpjbbpilgfihbaaGreatDoorN4
import Derived.Test.YtpjbbpilgfihbaaGreatDoorN5
import Derived.Test.YtpjbbpilgfihbaaGreatDoorN7
set_option maxRecDepth 100000
set_option linter.unusedSimpArgs false
set_option linter.unusedVariables false
namespace Go.Proofs.YtpjbbpilgfihbaaGreatDoor
open Go Go.Av Go.RowKit
attribute [local go_sem ↓] br_true br_false dbr_true dbr_false dbri_true dbri_false dbrg_true dbrg_false
attribute [local go_sem] run cont br dbr dx dxc dgrd dyld dres dcall calm fieldPlace? allHas step1 opN grdN resN condN exitN stopN exitIt dOk xop xbin xint xarith xstr xbool xpick xnot xneg xextract xpart xpartOk xindex xfieldF fieldD xnew xbox xalloc xfieldAddr xptrAddIf xindexAddr xloadC xload putCells reElem xstoreB xstore xconv xtext xlen xlen2 xcall xfill xbuild cut rep xbuildSlice xbuildSliceD isRow elemD isU8 ev evs evp Go.Av.put Go.Av.get ofConst yldD yldV notBool_undef args0 cellsOf cond_true cond_false decide_true decide_false decide_eq_true_eq decide_eq_false_iff_not List.getElem?_cons_zero List.getElem?_cons_succ List.getElem?_nil List.getD_cons_zero List.getD_cons_succ List.getD_nil List.set_cons_zero List.set_cons_succ List.length_cons List.length_nil List.cons_append List.nil_append List.append_nil List.all_cons List.all_nil List.map_cons List.map_nil List.take_succ_cons List.take_zero List.drop_succ_cons List.drop_zero Bool.and_true Bool.true_and Bool.and_self Bool.and_false Bool.false_and one Go.Av.frozen beq_self_eq_true true_and and_true forall_const false_implies implies_true and_self Option.map_some Option.map_none Nat.zero_add Nat.add_zero Nat.zero_mul Nat.mul_one Nat.one_mul Int.toNat_zero ne_eq not_false_eq_true not_true_eq_false Bool.true_eq_false Bool.false_eq_true List.toList_toArray inr Go.Av.byteOf isByte decide_eq_decide Bool.not_true Bool.not_false Bool.not_eq_true' Bool.or_true Bool.true_or Bool.or_false Bool.false_or ge_iff_le gt_iff_lt and_assoc Bool.decide_eq_true beq_iff_eq beq_eq_false_iff_ne bne_iff_ne bne_self_eq_false if_true if_false Bool.and_eq_true Bool.or_eq_true Bool.and_eq_false_imp Bool.or_eq_false_iff Bool.not_eq_false' has Option.isSome_some Option.isSome_none Int.toNat_natCast Int.cast_ofNat_Int List.length_append xapp2 xapp xappS xappD xappB notInt srcOf srcB byteAV splice' xcut xcutS xcutF xcutB xcutN xcut0 cutL loOf hiOf evo xmake zelem xmax xcopy2 xcopyS xcopyB xnil xcut3 ixOf xclear2 xclearB List.getElem?_toArray xbin2 xnileq xempty xmkmap xmput xmputB xmputF isKey keyEq mfind xbin3 xeqs xeqop eqFs bothB leafEq xlook xlookB xlookF xbytes beq_c_n beq_n_c bne_c_n bne_n_c one_nil dxi dxic dbri rix dck reader blind opOk refOk Go.Op.operands Go.Call.operands List.contains_cons List.contains_nil dxg dxgc dbrg pck putD List.lookup_cons List.lookup_nil ts2 tb2 zl2 za2 Tryz.underlying2 ts3 tb3 zl3 za3 Tryz.underlying3 ts4 tb4 zl4 za4 Tryz.underlying4 ts5 tb5 zl5 za5 Tryz.underlying5 ts6 tb6 zl6 za6 Tryz.underlying6 ts7 tb7 za7 Tryz.underlying7 ts8 tb8 za8 Tryz.underlying8 ts9 tb9 zl9 za9 Tryz.underlying9 ts10 tb10 zl10 za10 Tryz.underlying10 ts11 tb11 zl11 za11 Tryz.underlying11 ts12 tb12 zl12 za12 Tryz.underlying12 ts13 tb13 za13 Tryz.underlying13 ts14 tb14 za14 Tryz.underlying14 ts18 tb18 za18 Tryz.underlying18 ts19 tb19 za19 Tryz.underlying19 ts21 tb21 zl21 za21 Tryz.underlying21 ts22 tb22 zl22 za22 Tryz.underlying22 ts24 tb24 za24 Tryz.underlying24 ts25 tb25 za25 Tryz.underlying25 ts27 tb27 zl27 za27 Tryz.underlying27 ts35 tb35 zl35 za35 Tryz.underlying35 ts36 tb36 za36 Tryz.underlying36 ts37 tb37 za37 Tryz.underlying37 ts39 tb39 zl39 za39 Tryz.underlying39 ts41 tb41 za41 Tryz.underlying41 ts42 tb42 za42 Tryz.underlying42 ts63 tb63 zl63 za63 Tryz.underlying63 ts64 tb64 zl64 za64 Tryz.underlying64 ts65 tb65 za65 Tryz.underlying65 ts66 tb66 za66 Tryz.underlying66 ts67 tb67 zl67 za67 Tryz.underlying67 ts69 tb69 za69 Tryz.underlying69 ts70 tb70 za70 Tryz.underlying70 ts73 tb73 za73 Tryz.underlying73 ts74 tb74 za74 Tryz.underlying74 ts75 tb75 zl75 za75 Tryz.underlying75 ts82 tb82 zl82 za82 Tryz.underlying82 ts96 tb96 za96 Tryz.underlying96 ts97 tb97 za97 Tryz.underlying97 ts103 tb103 za103 Tryz.underlying103 ts104 tb104 za104 Tryz.underlying104 ts109 tb109 zl109 za109 Tryz.underlying109 ts116 tb116 zl116 za116 Tryz.underlying116 ts117 tb117 za117 Tryz.underlying117 ts118 tb118 za118 Tryz.underlying118 ts120 tb120 zl120 za120 Tryz.underlying120 ts124 tb124 zl124 za124 Tryz.underlying124 ts126 tb126 za126 Tryz.underlying126 ts128 tb128 zl128 za128 Tryz.underlying128 ts130 tb130 za130 Tryz.underlying130 ts131 tb131 za131 Tryz.underlying131 ts153 tb153 zl153 za153 Tryz.underlying153 ts167 tb167 zl167 za167 Tryz.underlying167 ts171 tb171 zl171 za171 Tryz.underlying171 ts177 tb177 zl177 za177 Tryz.underlying177 ts183 tb183 zl183 za183 Tryz.underlying183 ts189 tb189 zl189 za189 Tryz.underlying189 ts191 tb191 zl191 za191 Tryz.underlying191 ts195 tb195 za195 Tryz.underlying195 ts196 tb196 za196 Tryz.underlying196 ts198 tb198 zl198 za198 Tryz.underlying198 ts203 tb203 Tryz.underlying203 ts209 tb209 za209 Tryz.underlying209 ts210 tb210 za210 Tryz.underlying210 ts211 tb211 Tryz.underlying211 ts216 tb216 za216 Tryz.underlying216 ts217 tb217 za217 Tryz.underlying217 ts220 tb220 Tryz.underlying220 ts225 tb225 Tryz.underlying225 ts226 tb226 Tryz.underlying226 ts227 tb227 za227 Tryz.underlying227 ts228 tb228 za228 Tryz.underlying228 ts232 tb232 zl232 za232 Tryz.underlying232 ts233 tb233 zl233 za233 Tryz.underlying233 ts235 tb235 zl235 za235 Tryz.underlying235 ts236 tb236 zl236 za236 Tryz.underlying236 ts237 tb237 za237 Tryz.underlying237 ts238 tb238 za238 Tryz.underlying238

section
variable {b0 b1 b2 b3 o sc : Blk} {V r : List Blk}
theorem tabC_map (f : Blk → Blk) : (tabC b0 b1 b2 b3 V o sc r).map f = tabC (f b0) (f b1) (f b2) (f b3) (V.map f) (f o) (f sc) (r.map f) := by simp [tabC]
end
theorem frz_all_map {α : Type} {id es : Nat} {l : List AV} {f : α → AV} (h : ∀ x, frz id es l (f x) = f x) (xs : List α) : (xs.map f).map (frz id es l) = xs.map f := by
  rw [List.map_map]; exact List.map_congr_left fun x _ => h x
theorem frz_hsc {id es : Nat} {l : List AV} : ∀ (xs : List Sc) (j : Nat), id < j → (hsc j xs).map (frz id es l) = hsc j xs
  | [], _, _ => rfl
  | x :: r, j, h => by
    have hj : (j == id) = false := by rw [beq_eq_false_iff_ne]; omega
    have ih := frz_hsc (id := id) (es := es) (l := l) r (j + 1) (by omega)
    have hc : frz1 id es l (cellP j x) = cellP j x := by
      unfold cellP
      cases x.paras.isEmpty with
      | true => rfl
      | false => simp [frz1, hj]
    have h2 : frz id es l (scH j x) = scH j x := by
      show AV.agg (List.map (frz1 id es l) [.str x.no, .int .i64 x.place, .str x.set, .int .i64 x.time, cellP j x]) = _
      simp only [List.map_cons, List.map_nil, hc]
      rfl
    simp only [hsc, List.map_cons, ih, h2]
def doneB (y : Sc) : Blk := bif y.paras.isEmpty then .arr 2 [] else .dead
theorem frzB_done {id es : Nat} {l : List AV} (xs : List Sc) : (xs.map doneB).map (frzB id es l) = xs.map doneB := by
  rw [List.map_map]
  refine List.map_congr_left fun y _ => ?_
  simp only [Function.comp, doneB]
  cases y.paras.isEmpty <;> rfl
theorem frzB_blkM {id es : Nat} {l : List AV} (xs : List Sc) : (xs.map blkM).map (frzB id es l) = xs.map blkM := by
  rw [List.map_map]
  refine List.map_congr_left fun y _ => ?_
  simp only [Function.comp, blkM, frzB]
  rw [frz_all_map (fun _ => rfl)]

theorem frzB_out {id es : Nat} {l : List AV} (ti : List UInt8) (n : Nat) (h : 5 < id) : frzB id es l (outBk ti n) = outBk ti n := by
  have : (5 == id) = false := by rw [beq_eq_false_iff_ne]; omega
  simp [outBk, frzB, frz, frz1, this]
theorem paras_snoc {xs : List Sc} {i : Nat} (h : i < xs.length) : parasOf (xs.take (i + 1)) = parasOf (xs.take i) ++ xs[i].paras := by
  rw [List.take_succ_eq_append_getElem h]
  simp only [parasOf, List.flatMap_append, List.flatMap_cons, List.flatMap_nil, List.append_nil]
theorem paras_len (xs : List Sc) : (parasOf xs).length = paraSum xs := by
  simp [parasOf, paraSum, List.length_flatMap]
theorem many_snoc (fr tu : List UInt8) (l : List Pa) (p : Pa) : manyL fr tu (l ++ [p]) = manyL fr tu l + (if chgP fr tu p then 1 else 0) := by
  simp [manyL, List.countP_append, List.countP_cons]
theorem big_snoc (fr tu : List UInt8) (l : List Pa) (p : Pa) : bigL fr tu (l ++ [p]) = (bigL fr tu l || bigP (renP fr tu p)) := by simp [bigL]
theorem form_snoc (fr tu : List UInt8) (l : List Pa) (p : Pa) : formL fr tu (l ++ [p]) = (formL fr tu l || formP (renP fr tu p)) := by simp [formL]
theorem many_le (fr tu : List UInt8) (l : List Pa) : manyL fr tu l ≤ l.length := List.countP_le_length
theorem replK_len (fr tu : List UInt8) : ∀ (s : List UInt8) (p : Bool) (k : Nat), (replK fr tu p k s).length ≤ s.length * (tu.length + 1)
  | [], p, k => by simp [replK]
  | a :: s, p, k + 1 => by
    have := replK_len fr tu s (partB a) k
    simp only [replK, List.length_cons, Nat.succ_mul]; omega
  | a :: s, p, 0 => by
    have h1 := replK_len fr tu s (partB a) 0
    have h2 := replK_len fr tu s (partB a) (fr.length - 1)
    simp only [replK]
    split <;> simp only [List.length_cons, List.length_append, Nat.succ_mul] <;> omega
theorem ren_len (fr tu : List UInt8) (p : Pa) : (renP fr tu p).text.length ≤ p.text.length * (tu.length + 1) + p.text.length + tu.length := by
  have := replK_len fr tu p.text false 0
  unfold renP
  cases p.kind == 2 with
  | true =>
    cases p.text == fr with
    | true => simp only [cond_true]; omega
    | false => simp only [cond_true, cond_false]; omega
  | false => simp only [cond_false, replL]; omega
theorem name_pos {t : List UInt8} (h : nameL t = true) : 0 < t.length := by
  simp only [nameL, properL, Bool.and_eq_true, Bool.not_eq_true', decide_eq_false_iff_not] at h
  have := h.1
  omega
def zeroBk : Blk := .arr 2 [.agg [.str [], .raw (.slice none 0 0)]]
/-- the table at the head of a round -/
def tabR (ti : List UInt8) (xs : List Sc) (fr tu : List UInt8) (i : Nat) : List Blk :=
  tabC (.arr 2 [.agg [.str ti, .fz 5 (xs.map scA)]]) zeroBk (.arr 2 [.agg [.str ti, .fz 5 (xs.map scA)]]) (outBk ti xs.length) ((xs.take i).map doneB) (outBk ti xs.length) (.arr 5 ((xs.take i).map (fun y => scA (renS fr tu y)) ++ hsc (i + 6) (xs.drop i))) ((xs.drop i).map blkM ++ [outBk ti xs.length])

set_option maxHeartbeats 8000000 in
theorem rename_pch {St : Std} (hS : LibOk St) (x : Sr) (hx : ScriptOk x) (fr tu : List UInt8) (hfr : nameL fr = true) (htu : nameL tu = true) (hlf : fr.length ≤ 30) (hlt : tu.length ≤ 30) (h1 : hasL x.scenes fr = true) (hne : (tu != fr) = true) (h2 : hasL x.scenes tu = false) :
    PcH Tryz.prog St 14 [srA x, .str fr, .str tu] (fun r => (bigL fr tu (parasOf x.scenes) = false ∧ formL fr tu (parasOf x.scenes) = false ∧ r = .tup [srA (renR fr tu x), .int .i64 (manyL fr tu (parasOf x.scenes)), .int .i64 0]) ∨
      (∃ e : Int, (e = 2 ∨ e = 3) ∧ (bigL fr tu (parasOf x.scenes) || formL fr tu (parasOf x.scenes)) = true ∧ r = .tup [.agg [.str [], .raw (.slice none 0 0)], .int .i64 0, .int .i64 e])) := by
  have hck := check_pch hS x hx
  have hp0 := name_pos hfr
  have hpl : ∀ y ∈ x.scenes, y.paras.length < 1000000 := fun y hy => by have := small_paras hx y hy; omega
  have hxl := hx.len
  have hsum := hx.many
  have hok := ok_at _ _ _ hx.ok
  have hps := small_paras hx
  obtain ⟨ti, xs⟩ := x
  simp only [srA] at hck hpl h1 h2 hxl hsum hok hps ⊢
  have hh1 := has_ct ti zeroBk rfl rfl fr xs (by omega) hpl
  have hh2 := has_ct ti zeroBk rfl rfl tu xs (by omega) hpl
  have hco := copied_ct (.arr 2 [.agg [.str ti, .fz 5 (xs.map scA)]]) zeroBk (fun _ _ => rfl) (fun _ _ => rfl) ti xs (by omega) hps
  refine pch_intro (cth_intro Tryz.func14 rfl Tryz.ntmps14 hB14 (by simp) fun h ρ w hg => goF (N := 149) Tryz.ntmps14 300 ?_)
  simp only [go_sem, Nat.reduceAdd, Nat.reduceMul, Nat.reduceSub, Nat.reduceBEq, Nat.reduceLT, Nat.reduceLeDiff, reduceIte, reduceCtorEq, Int.reduceToNat, Int.reduceLE, Int.reduceLT, Int.reduceNe, Int.reduceMul, Int.reduceAdd, Int.reduceSub, Int.reduceDiv, Int.reduceMod, Int.reduceEq, Int.reduceGE, Int.reduceGT, Int.reduceNeg, Int.reduceBEq, Int.reduceBNe, Nat.reduceEqDiff]
  refine pcallH1 hg (hck) rfl (N := 149) Tryz.ntmps14 rfl (goF (N := 149) Tryz.ntmps14 300 ?_)
  simp only [go_sem, Nat.reduceAdd, Nat.reduceMul, Nat.reduceSub, Nat.reduceBEq, Nat.reduceLT, Nat.reduceLeDiff, reduceIte, reduceCtorEq, Int.reduceToNat, Int.reduceLE, Int.reduceLT, Int.reduceNe, Int.reduceMul, Int.reduceAdd, Int.reduceSub, Int.reduceDiv, Int.reduceMod, Int.reduceEq, Int.reduceGE, Int.reduceGT, Int.reduceNeg, Int.reduceBEq, Int.reduceBNe, Nat.reduceEqDiff]
  refine pcallH1 hg (isName_pch hS fr (by omega)) rfl (N := 149) Tryz.ntmps14 rfl (goF (N := 149) Tryz.ntmps14 300 ?_)
  simp only [go_sem, Nat.reduceAdd, Nat.reduceMul, Nat.reduceSub, Nat.reduceBEq, Nat.reduceLT, Nat.reduceLeDiff, reduceIte, reduceCtorEq, Int.reduceToNat, Int.reduceLE, Int.reduceLT, Int.reduceNe, Int.reduceMul, Int.reduceAdd, Int.reduceSub, Int.reduceDiv, Int.reduceMod, Int.reduceEq, Int.reduceGE, Int.reduceGT, Int.reduceNeg, Int.reduceBEq, Int.reduceBNe, Nat.reduceEqDiff, hfr]
  refine pcallH1 hg (isName_pch hS tu (by omega)) rfl (N := 149) Tryz.ntmps14 rfl (goF (N := 149) Tryz.ntmps14 300 ?_)
  simp only [go_sem, Nat.reduceAdd, Nat.reduceMul, Nat.reduceSub, Nat.reduceBEq, Nat.reduceLT, Nat.reduceLeDiff, reduceIte, reduceCtorEq, Int.reduceToNat, Int.reduceLE, Int.reduceLT, Int.reduceNe, Int.reduceMul, Int.reduceAdd, Int.reduceSub, Int.reduceDiv, Int.reduceMod, Int.reduceEq, Int.reduceGE, Int.reduceGT, Int.reduceNeg, Int.reduceBEq, Int.reduceBNe, Nat.reduceEqDiff, htu]
  refine acall (hh1) (N := 149) Tryz.ntmps14 rfl ?_
  rintro _ _ ⟨rfl, rfl⟩
  refine goF (N := 149) Tryz.ntmps14 300 ?_
  simp only [go_sem, Nat.reduceAdd, Nat.reduceMul, Nat.reduceSub, Nat.reduceBEq, Nat.reduceLT, Nat.reduceLeDiff, reduceIte, reduceCtorEq, Int.reduceToNat, Int.reduceLE, Int.reduceLT, Int.reduceNe, Int.reduceMul, Int.reduceAdd, Int.reduceSub, Int.reduceDiv, Int.reduceMod, Int.reduceEq, Int.reduceGE, Int.reduceGT, Int.reduceNeg, Int.reduceBEq, Int.reduceBNe, Nat.reduceEqDiff, h1, hne]
  refine acall (hh2) (N := 149) Tryz.ntmps14 rfl ?_
  rintro _ _ ⟨rfl, rfl⟩
  refine goF (N := 149) Tryz.ntmps14 300 ?_
  simp only [go_sem, Nat.reduceAdd, Nat.reduceMul, Nat.reduceSub, Nat.reduceBEq, Nat.reduceLT, Nat.reduceLeDiff, reduceIte, reduceCtorEq, Int.reduceToNat, Int.reduceLE, Int.reduceLT, Int.reduceNe, Int.reduceMul, Int.reduceAdd, Int.reduceSub, Int.reduceDiv, Int.reduceMod, Int.reduceEq, Int.reduceGE, Int.reduceGT, Int.reduceNeg, Int.reduceBEq, Int.reduceBNe, Nat.reduceEqDiff, h2]
  refine acall (hco) (N := 149) Tryz.ntmps14 rfl ?_
  rintro _ _ ⟨rfl, rfl⟩
  have hVl : (xs.map blkM).length = xs.length := by simp
  generalize hV : xs.map blkM = V at hVl ⊢
  refine goF (N := 149) Tryz.ntmps14 300 ?_
  simp only [go_sem, Nat.reduceAdd, Nat.reduceMul, Nat.reduceSub, Nat.reduceBEq, Nat.reduceLT, Nat.reduceLeDiff, reduceIte, reduceCtorEq, Int.reduceToNat, Int.reduceLE, Int.reduceLT, Int.reduceNe, Int.reduceMul, Int.reduceAdd, Int.reduceSub, Int.reduceDiv, Int.reduceMod, Int.reduceEq, Int.reduceGE, Int.reduceGT, Int.reduceNeg, Int.reduceBEq, Int.reduceBNe, Nat.reduceEqDiff, tabC_app, tabC_len, tabC_g0, tabC_s0, tabC_sc, tabC_ssc]
  refine ⟨by rw [hsc_len], ?_⟩
  refine aloop (ι := Nat) (fun i => xs.length - i)
    (fun i => [(56, .int .i64 i), (55, .int .i64 xs.length), (12, .int .i64 (manyL fr tu (parasOf (xs.take i)))), (13, .bool (bigL fr tu (parasOf (xs.take i)))), (14, .bool (formL fr tu (parasOf (xs.take i)))), (11, .ptr (xs.length + 6) 1 0 0), (1, .str fr), (2, .str tu), (6, .ptr 1 1 0 0)])
    (fun i => tabR ti xs fr tu i) (fun i => i ≤ xs.length) 0 (by simp) ?_ ?_
  · refine Shift.weakS ?_ ?_
    · simp only [wk, go_sem, Nat.reduceAdd, Nat.reduceMul, Nat.reduceSub, Nat.reduceBEq, Nat.reduceLT, Nat.reduceLeDiff, reduceIte, reduceCtorEq, Int.reduceToNat, Int.reduceLE, Int.reduceLT, Int.reduceNe, Int.reduceMul, Int.reduceAdd, Int.reduceSub, Int.reduceDiv, Int.reduceMod, Int.reduceEq, Int.reduceGE, Int.reduceGT, Int.reduceNeg, Int.reduceBEq, Int.reduceBNe, Nat.reduceEqDiff, hVl, List.take_zero]
      exact ⟨rfl, rfl, rfl⟩
    · rw [← hV]; simp [tabR, tabC, outBk]
  · intro i g1 J hJ
    by_cases gi : i < xs.length
    · have di : decide ((i : Int) < (xs.length : Int)) = true := by simp; omega
      have hdrop : xs.drop i = xs[i] :: xs.drop (i + 1) := List.drop_eq_getElem_cons gi
      have htl : (List.take i xs).length = i := by simp; omega
      have fin := hJ (i + 1) (by omega) (by omega)
      have hdl : ((xs.take i).map doneB).length = i := by simp; omega
      have hAl : ((xs.take i).map (fun y => scA (renS fr tu y))).length = i := by simp; omega
      have htab : tabR ti xs fr tu i = tabC (.arr 2 [.agg [.str ti, .fz 5 (xs.map scA)]]) zeroBk (.arr 2 [.agg [.str ti, .fz 5 (xs.map scA)]]) (outBk ti xs.length) ((xs.take i).map doneB) (outBk ti xs.length) (.arr 5 ((xs.take i).map (fun y => scA (renS fr tu y)) ++ scH (i + 6) xs[i] :: hsc (i + 1 + 6) (xs.drop (i + 1)))) (blkM xs[i] :: ((xs.drop (i + 1)).map blkM ++ [outBk ti xs.length])) := by
        unfold tabR
        rw [hdrop]
        simp only [hsc, List.map_cons, List.cons_append]
        first | done | rw [show i + 6 + 1 = i + 1 + 6 by omega]
      rw [htab]
      have hcells : ∀ v, List.getD ((xs.take i).map (fun y => scA (renS fr tu y)) ++ v :: hsc (i + 1 + 6) (xs.drop (i + 1))) i .any = v := fun v => by
        rw [List.getD_eq_getElem?_getD, List.getElem?_append_right (by omega), hAl, Nat.sub_self]; rfl
      have hcl : ∀ v : AV, ((xs.take i).map (fun y => scA (renS fr tu y)) ++ v :: hsc (i + 1 + 6) (xs.drop (i + 1))).length = xs.length := fun v => by
        rw [List.length_append, hAl, List.length_cons, hsc_len, List.length_drop]; omega
      have hout : ∀ (V : List Blk) (sc v : Blk), V.length = i → (tabC (.arr 2 [.agg [.str ti, .fz 5 (xs.map scA)]]) zeroBk (.arr 2 [.agg [.str ti, .fz 5 (xs.map scA)]]) (outBk ti xs.length) V (outBk ti xs.length) sc (v :: ((xs.drop (i + 1)).map blkM ++ [outBk ti xs.length]))).getD (xs.length + 6) .dead = outBk ti xs.length := fun V sc v hV' => by
        have := tabC_get (b0 := .arr 2 [.agg [.str ti, .fz 5 (xs.map scA)]]) (b1 := zeroBk) (b2 := .arr 2 [.agg [.str ti, .fz 5 (xs.map scA)]]) (b3 := outBk ti xs.length) (o := outBk ti xs.length) (sc := sc) (V := V) (r := v :: ((xs.drop (i + 1)).map blkM ++ [outBk ti xs.length])) (xs.length - i)
        rw [hV', show i + (xs.length - i + 6) = xs.length + 6 by omega] at this
        rw [this, show xs.length - i = (xs.length - (i + 1)) + 1 by omega, List.getD_cons_succ, List.getD_eq_getElem?_getD, List.getElem?_append_right (by simp)]
        simp [List.length_map, List.length_drop]
      cases he : xs[i].paras.isEmpty with
      | true =>
        have hnil : xs[i].paras = [] := List.isEmpty_iff.1 he
        have hce : scH (i + 6) xs[i] = .agg [.str xs[i].no, .int .i64 xs[i].place, .str xs[i].set, .int .i64 xs[i].time, .fz 2 []] := by
          simp only [scH, cellP, he, cond_true]
        have hg0 := hcells (.agg [.str xs[i].no, .int .i64 xs[i].place, .str xs[i].set, .int .i64 xs[i].time, .fz 2 []])
        have hg1 := hcl (.agg [.str xs[i].no, .int .i64 xs[i].place, .str xs[i].set, .int .i64 xs[i].time, .fz 2 []])
        have hTo := hout ((xs.take i).map doneB) (.arr 5 ((xs.take i).map (fun y => scA (renS fr tu y)) ++ (AV.agg [.str xs[i].no, .int .i64 xs[i].place, .str xs[i].set, .int .i64 xs[i].time, .fz 2 []]) :: hsc (i + 1 + 6) (xs.drop (i + 1)))) (blkM xs[i]) hdl
        have htab2 : tabC (.arr 2 [.agg [.str ti, .fz 5 (xs.map scA)]]) zeroBk (.arr 2 [.agg [.str ti, .fz 5 (xs.map scA)]]) (outBk ti xs.length) ((xs.take i).map doneB) (outBk ti xs.length) (.arr 5 ((xs.take i).map (fun y => scA (renS fr tu y)) ++ (AV.agg [.str xs[i].no, .int .i64 xs[i].place, .str xs[i].set, .int .i64 xs[i].time, .fz 2 []]) :: hsc (i + 1 + 6) (xs.drop (i + 1)))) (blkM xs[i] :: ((xs.drop (i + 1)).map blkM ++ [outBk ti xs.length])) = tabR ti xs fr tu (i + 1) := by
          have hre : scA (renS fr tu xs[i]) = .agg [.str xs[i].no, .int .i64 xs[i].place, .str xs[i].set, .int .i64 xs[i].time, .fz 2 []] := by
            simp only [scA, renS, hnil, List.map_nil]
          have hde : doneB xs[i] = blkM xs[i] := by unfold doneB blkM; rw [hnil]; rfl
          unfold tabR
          rw [List.take_succ_eq_append_getElem gi, List.map_append, List.map_append, List.map_cons, List.map_nil, List.map_cons, List.map_nil, hde, hre, ← tabC_move]
          simp
        rw [hce]
        have hT5 : (tabC (.arr 2 [.agg [.str ti, .fz 5 (xs.map scA)]]) zeroBk (.arr 2 [.agg [.str ti, .fz 5 (xs.map scA)]]) (outBk ti xs.length) ((xs.take i).map doneB) (outBk ti xs.length) (.arr 5 ((xs.take i).map (fun y => scA (renS fr tu y)) ++ (AV.agg [.str xs[i].no, .int .i64 xs[i].place, .str xs[i].set, .int .i64 xs[i].time, .fz 2 []]) :: hsc (i + 1 + 6) (xs.drop (i + 1)))) (blkM xs[i] :: ((xs.drop (i + 1)).map blkM ++ [outBk ti xs.length]))).getD 5 .dead = .arr 5 ((xs.take i).map (fun y => scA (renS fr tu y)) ++ (AV.agg [.str xs[i].no, .int .i64 xs[i].place, .str xs[i].set, .int .i64 xs[i].time, .fz 2 []]) :: hsc (i + 1 + 6) (xs.drop (i + 1))) := rfl
        rw [htab2] at hTo hT5 ⊢
        unfold outBk at hTo
        generalize tabR ti xs fr tu (i + 1) = T at hTo hT5 fin ⊢
        generalize (xs.take i).map (fun y => scA (renS fr tu y)) ++ (AV.agg [.str xs[i].no, .int .i64 xs[i].place, .str xs[i].set, .int .i64 xs[i].time, .fz 2 []]) :: hsc (i + 1 + 6) (xs.drop (i + 1)) = SC at hg0 hg1 hT5
        refine goF (N := 149) Tryz.ntmps14 300 ?_
        simp only [go_sem, Nat.reduceAdd, Nat.reduceMul, Nat.reduceSub, Nat.reduceBEq, Nat.reduceLT, Nat.reduceLeDiff, reduceIte, reduceCtorEq, Int.reduceToNat, Int.reduceLE, Int.reduceLT, Int.reduceNe, Int.reduceMul, Int.reduceAdd, Int.reduceSub, Int.reduceDiv, Int.reduceMod, Int.reduceEq, Int.reduceGE, Int.reduceGT, Int.reduceNeg, Int.reduceBEq, Int.reduceBNe, Nat.reduceEqDiff, di, hTo, hT5, hg0, hg1]
        repeat refine And.intro (by first | omega | exact .inl trivial | rfl | (simp; done) | (simp; omega)) ?_
        refine aenter (around (go (N := 149) Tryz.ntmps14 300 ?_))
        simp only [go_sem, Nat.reduceAdd, Nat.reduceMul, Nat.reduceSub, Nat.reduceBEq, Nat.reduceLT, Nat.reduceLeDiff, reduceIte, reduceCtorEq, Int.reduceToNat, Int.reduceLE, Int.reduceLT, Int.reduceNe, Int.reduceMul, Int.reduceAdd, Int.reduceSub, Int.reduceDiv, Int.reduceMod, Int.reduceEq, Int.reduceGE, Int.reduceGT, Int.reduceNeg, Int.reduceBEq, Int.reduceBNe, Nat.reduceEqDiff]
        repeat refine And.intro (by first | omega | exact .inl trivial | rfl | (simp; done) | (simp; omega)) ?_
        rw [show (i : Int) + 1 = ((i + 1 : Nat) : Int) by omega]
        refine ainv fin (Shift.weakS ?_ rfl)
        simp only [wk, go_sem, Nat.reduceAdd, Nat.reduceMul, Nat.reduceSub, Nat.reduceBEq, Nat.reduceLT, Nat.reduceLeDiff, reduceIte, reduceCtorEq, Int.reduceToNat, Int.reduceLE, Int.reduceLT, Int.reduceNe, Int.reduceMul, Int.reduceAdd, Int.reduceSub, Int.reduceDiv, Int.reduceMod, Int.reduceEq, Int.reduceGE, Int.reduceGT, Int.reduceNeg, Int.reduceBEq, Int.reduceBNe, Nat.reduceEqDiff, paras_snoc gi, hnil, List.append_nil]
      | false =>
        have hce : scH (i + 6) xs[i] = .agg [.str xs[i].no, .int .i64 xs[i].place, .str xs[i].set, .int .i64 xs[i].time, .sl (i + 6) 0 xs[i].paras.length xs[i].paras.length] := by
          simp only [scH, cellP, he, cond_false]
        rw [hce]
        have hg0 := hcells (.agg [.str xs[i].no, .int .i64 xs[i].place, .str xs[i].set, .int .i64 xs[i].time, .sl (i + 6) 0 xs[i].paras.length xs[i].paras.length])
        have hg1 := hcl (.agg [.str xs[i].no, .int .i64 xs[i].place, .str xs[i].set, .int .i64 xs[i].time, .sl (i + 6) 0 xs[i].paras.length xs[i].paras.length])
        generalize hSC : (xs.take i).map (fun y => scA (renS fr tu y)) ++ (AV.agg [.str xs[i].no, .int .i64 xs[i].place, .str xs[i].set, .int .i64 xs[i].time, .sl (i + 6) 0 xs[i].paras.length xs[i].paras.length]) :: hsc (i + 1 + 6) (xs.drop (i + 1)) = SC at hg0 hg1 ⊢
        obtain ⟨S, hS1⟩ : ∃ S : List AV → List Blk, S = fun c => tabC (.arr 2 [.agg [.str ti, .fz 5 (xs.map scA)]]) zeroBk (.arr 2 [.agg [.str ti, .fz 5 (xs.map scA)]]) (outBk ti xs.length) ((xs.take i).map doneB) (outBk ti xs.length) (.arr 5 SC) (.arr 2 c :: ((xs.drop (i + 1)).map blkM ++ [outBk ti xs.length])) := ⟨_, rfl⟩
        have hSo : ∀ c, (S c).getD (xs.length + 6) .dead = .arr 2 [.agg [.str ti, .sl 5 0 xs.length xs.length]] := fun c => by rw [hS1]; exact hout _ _ _ hdl
        have hS5 : ∀ c, (S c).getD 5 .dead = .arr 5 SC := fun c => by rw [hS1]; rfl
        have hSb : ∀ c, (S c).getD (i + 6) .dead = .arr 2 c := fun c => by
          have := tabC_g0 (b0 := .arr 2 [.agg [.str ti, .fz 5 (xs.map scA)]]) (b1 := zeroBk) (b2 := .arr 2 [.agg [.str ti, .fz 5 (xs.map scA)]]) (b3 := outBk ti xs.length) (o := outBk ti xs.length) (sc := .arr 5 SC) (V := (xs.take i).map doneB) (r := .arr 2 c :: ((xs.drop (i + 1)).map blkM ++ [outBk ti xs.length]))
          rw [hdl] at this
          rw [hS1]; exact this
        have hSs : ∀ c c', (S c).set (i + 6) (.arr 2 c') = S c' := fun c c' => by
          have := tabC_s0 (b0 := .arr 2 [.agg [.str ti, .fz 5 (xs.map scA)]]) (b1 := zeroBk) (b2 := .arr 2 [.agg [.str ti, .fz 5 (xs.map scA)]]) (b3 := outBk ti xs.length) (o := outBk ti xs.length) (sc := .arr 5 SC) (V := (xs.take i).map doneB) (r := .arr 2 c :: ((xs.drop (i + 1)).map blkM ++ [outBk ti xs.length])) (.arr 2 c')
          rw [hdl] at this
          rw [hS1]; exact this
        have hS0 : tabC (.arr 2 [.agg [.str ti, .fz 5 (xs.map scA)]]) zeroBk (.arr 2 [.agg [.str ti, .fz 5 (xs.map scA)]]) (outBk ti xs.length) ((xs.take i).map doneB) (outBk ti xs.length) (.arr 5 SC) (blkM xs[i] :: ((xs.drop (i + 1)).map blkM ++ [outBk ti xs.length])) = S (xs[i].paras.map paA) := by rw [hS1]; rfl
        rw [hS0]
        clear hS0
        refine goF (N := 149) Tryz.ntmps14 300 ?_
        simp only [go_sem, Nat.reduceAdd, Nat.reduceMul, Nat.reduceSub, Nat.reduceBEq, Nat.reduceLT, Nat.reduceLeDiff, reduceIte, reduceCtorEq, Int.reduceToNat, Int.reduceLE, Int.reduceLT, Int.reduceNe, Int.reduceMul, Int.reduceAdd, Int.reduceSub, Int.reduceDiv, Int.reduceMod, Int.reduceEq, Int.reduceGE, Int.reduceGT, Int.reduceNeg, Int.reduceBEq, Int.reduceBNe, Nat.reduceEqDiff, di, hSo, hS5, hSb, hg0, hg1]
        repeat refine And.intro (by first | omega | exact .inl trivial | rfl | (simp; done) | (simp; omega)) ?_
        have hpm := run_all _ _ _ (hok _ (List.getElem_mem gi)).run.choose_spec.1
        have hcount : (parasOf (List.take i xs)).length + xs[i].paras.length ≤ 4000 := by
          have := paraSum_take xs i gi
          have := paraSum_take_le xs (i + 1)
          rw [paras_len]; omega
        generalize hps' : xs[i].paras = ps at hpm hcount ⊢
        refine aloop (ι := Nat) (fun k => ps.length - k)
          (fun k => [(66, .int .i64 k), (65, .int .i64 ps.length), (15, .int .i64 i), (56, .int .i64 i), (55, .int .i64 xs.length), (12, .int .i64 (manyL fr tu (parasOf (xs.take i) ++ ps.take k))), (13, .bool (bigL fr tu (parasOf (xs.take i) ++ ps.take k))), (14, .bool (formL fr tu (parasOf (xs.take i) ++ ps.take k))), (11, .ptr (xs.length + 6) 1 0 0), (1, .str fr), (2, .str tu), (6, .ptr 1 1 0 0)])
          (fun k => S (((ps.take k).map (renP fr tu) ++ ps.drop k).map paA)) (fun k => k ≤ ps.length) 0 (by simp) ?_ ?_
        · refine Shift.weakS ?_ (by simp)
          simp only [wk, go_sem, Nat.reduceAdd, Nat.reduceMul, Nat.reduceSub, Nat.reduceBEq, Nat.reduceLT, Nat.reduceLeDiff, reduceIte, reduceCtorEq, Int.reduceToNat, Int.reduceLE, Int.reduceLT, Int.reduceNe, Int.reduceMul, Int.reduceAdd, Int.reduceSub, Int.reduceDiv, Int.reduceMod, Int.reduceEq, Int.reduceGE, Int.reduceGT, Int.reduceNeg, Int.reduceBEq, Int.reduceBNe, Nat.reduceEqDiff, List.take_zero, List.append_nil]
        · intro k g2 J2 hJ2
          by_cases gk : k < ps.length
          · have dk : decide ((k : Int) < (ps.length : Int)) = true := by simp; omega
            have fin2 := hJ2 (k + 1) (by omega) (by omega)
            have htk : (List.take k ps).length = k := by simp; omega
            have hcl2 : (((ps.take k).map (renP fr tu) ++ ps.drop k).map paA).length = ps.length := by simp; omega
            have hpk : List.getD (((ps.take k).map (renP fr tu) ++ ps.drop k).map paA) k .any = .agg [.int .i64 ps[k].kind, .str ps[k].text] := by
              rw [List.getD_eq_getElem?_getD, List.getElem?_map, List.getElem?_append_right (by simp; omega), List.length_map, htk, Nat.sub_self, List.getElem?_drop, Nat.add_zero, List.getElem?_eq_getElem gk]
              rfl
            have hset : ∀ t, (((ps.take k).map (renP fr tu) ++ ps.drop k).map paA).set k (.agg [.int .i64 ps[k].kind, .str t]) = ((ps.take k).map (renP fr tu) ++ ⟨ps[k].kind, t⟩ :: ps.drop (k + 1)).map paA := fun t => by
              rw [List.drop_eq_getElem_cons gk, List.map_append, List.map_cons, List.set_append_right _ _ (by simp; omega), List.length_map, List.length_map, htk, Nat.sub_self, List.map_append]
              rfl
            have hnext : (ps.take k).map (renP fr tu) ++ renP fr tu ps[k] :: ps.drop (k + 1) = (ps.take (k + 1)).map (renP fr tu) ++ ps.drop (k + 1) := by
              rw [List.take_succ_eq_append_getElem gk, List.map_append, List.append_assoc]; rfl
            have hdn : parasOf (xs.take i) ++ ps.take (k + 1) = (parasOf (xs.take i) ++ ps.take k) ++ [ps[k]] := by
              rw [List.take_succ_eq_append_getElem gk, List.append_assoc]
            have htx : ps[k].text.length ≤ 2000 := by
              have := hpm _ (List.getElem_mem gk)
              simp only [paraOk, Bool.and_eq_true, decide_eq_true_eq] at this
              exact this.2.2.2.2.1
            have hmle := many_le fr tu (parasOf (xs.take i) ++ ps.take k)
            rw [List.length_append, htk] at hmle
            rw [← hnext, hdn, many_snoc, big_snoc, form_snoc] at fin2
            generalize parasOf (xs.take i) ++ ps.take k = dn at hmle fin2 ⊢
            refine goF (N := 149) Tryz.ntmps14 53 ?_
            simp only [go_sem, Nat.reduceAdd, Nat.reduceMul, Nat.reduceSub, Nat.reduceBEq, Nat.reduceLT, Nat.reduceLeDiff, reduceIte, reduceCtorEq, Int.reduceToNat, Int.reduceLE, Int.reduceLT, Int.reduceNe, Int.reduceMul, Int.reduceAdd, Int.reduceSub, Int.reduceDiv, Int.reduceMod, Int.reduceEq, Int.reduceGE, Int.reduceGT, Int.reduceNeg, Int.reduceBEq, Int.reduceBNe, Nat.reduceEqDiff, dk, hSo, hS5, hSb, hSs, hg0, hg1, hps', hpk, hcl2]
            repeat refine And.intro (by first | omega | exact .inl trivial | rfl | (simp; done) | (simp; omega)) ?_
            refine acut (ι := Unit)
              (fun _ => [(18, .str (renP fr tu ps[k]).text), (17, .ptr (i + 6) ps.length k 0), (66, .int .i64 k), (65, .int .i64 ps.length), (15, .int .i64 i), (56, .int .i64 i), (55, .int .i64 xs.length), (12, .int .i64 (manyL fr tu dn)), (13, .bool (bigL fr tu dn)), (14, .bool (formL fr tu dn)), (11, .ptr (xs.length + 6) 1 0 0), (1, .str fr), (2, .str tu), (6, .ptr 1 1 0 0)])
              (fun _ => S (((ps.take k).map (renP fr tu) ++ ps.drop k).map paA)) (fun _ => True) ?_ ?_
            · intro Jc hJc
              cases hk2 : ps[k].kind == 2 with
              | true =>
                have hk3 : (ps[k].kind != 2) = false := by simpa using hk2
                cases hte : ps[k].text == fr with
                | true =>
                  have hq : (renP fr tu ps[k]).text = tu := by simp only [renP, hk2, hte, cond_true]
                  have fc := hJc () trivial
                  rw [hq] at fc
                  refine goF (N := 149) Tryz.ntmps14 300 ?_
                  simp only [go_sem, Nat.reduceAdd, Nat.reduceMul, Nat.reduceSub, Nat.reduceBEq, Nat.reduceLT, Nat.reduceLeDiff, reduceIte, reduceCtorEq, Int.reduceToNat, Int.reduceLE, Int.reduceLT, Int.reduceNe, Int.reduceMul, Int.reduceAdd, Int.reduceSub, Int.reduceDiv, Int.reduceMod, Int.reduceEq, Int.reduceGE, Int.reduceGT, Int.reduceNeg, Int.reduceBEq, Int.reduceBNe, Nat.reduceEqDiff, hSb, hpk, hcl2, hk3, hte]
                  repeat refine And.intro (by first | omega | exact .inl trivial | rfl | (simp; done) | (simp; omega)) ?_
                  refine ainv fc (Shift.weak ?_)
                  simp only [wk, go_sem, Nat.reduceAdd, Nat.reduceMul, Nat.reduceSub, Nat.reduceBEq, Nat.reduceLT, Nat.reduceLeDiff, reduceIte, reduceCtorEq, Int.reduceToNat, Int.reduceLE, Int.reduceLT, Int.reduceNe, Int.reduceMul, Int.reduceAdd, Int.reduceSub, Int.reduceDiv, Int.reduceMod, Int.reduceEq, Int.reduceGE, Int.reduceGT, Int.reduceNeg, Int.reduceBEq, Int.reduceBNe, Nat.reduceEqDiff]
                | false =>
                  have hq : (renP fr tu ps[k]).text = ps[k].text := by simp only [renP, hk2, hte, cond_true, cond_false]
                  have fc := hJc () trivial
                  rw [hq] at fc
                  refine goF (N := 149) Tryz.ntmps14 300 ?_
                  simp only [go_sem, Nat.reduceAdd, Nat.reduceMul, Nat.reduceSub, Nat.reduceBEq, Nat.reduceLT, Nat.reduceLeDiff, reduceIte, reduceCtorEq, Int.reduceToNat, Int.reduceLE, Int.reduceLT, Int.reduceNe, Int.reduceMul, Int.reduceAdd, Int.reduceSub, Int.reduceDiv, Int.reduceMod, Int.reduceEq, Int.reduceGE, Int.reduceGT, Int.reduceNeg, Int.reduceBEq, Int.reduceBNe, Nat.reduceEqDiff, hSb, hpk, hcl2, hk3, hte]
                  repeat refine And.intro (by first | omega | exact .inl trivial | rfl | (simp; done) | (simp; omega)) ?_
                  refine ainv fc (Shift.weak ?_)
                  simp only [wk, go_sem, Nat.reduceAdd, Nat.reduceMul, Nat.reduceSub, Nat.reduceBEq, Nat.reduceLT, Nat.reduceLeDiff, reduceIte, reduceCtorEq, Int.reduceToNat, Int.reduceLE, Int.reduceLT, Int.reduceNe, Int.reduceMul, Int.reduceAdd, Int.reduceSub, Int.reduceDiv, Int.reduceMod, Int.reduceEq, Int.reduceGE, Int.reduceGT, Int.reduceNeg, Int.reduceBEq, Int.reduceBNe, Nat.reduceEqDiff]
              | false =>
                have hk3 : (ps[k].kind != 2) = true := by simpa using hk2
                have hq : (renP fr tu ps[k]).text = replL ps[k].text fr tu := by simp only [renP, hk2, cond_false]
                have fc := hJc () trivial
                rw [hq] at fc
                refine goF (N := 149) Tryz.ntmps14 300 ?_
                simp only [go_sem, Nat.reduceAdd, Nat.reduceMul, Nat.reduceSub, Nat.reduceBEq, Nat.reduceLT, Nat.reduceLeDiff, reduceIte, reduceCtorEq, Int.reduceToNat, Int.reduceLE, Int.reduceLT, Int.reduceNe, Int.reduceMul, Int.reduceAdd, Int.reduceSub, Int.reduceDiv, Int.reduceMod, Int.reduceEq, Int.reduceGE, Int.reduceGT, Int.reduceNeg, Int.reduceBEq, Int.reduceBNe, Nat.reduceEqDiff, hSb, hpk, hcl2, hk3]
                repeat refine And.intro (by first | omega | exact .inl trivial | rfl | (simp; done) | (simp; omega)) ?_
                refine pcallH1 hg (replaced_pch ps[k].text fr tu (by omega) hp0 (by omega) (by omega)) rfl (N := 149) Tryz.ntmps14 rfl (goF (N := 149) Tryz.ntmps14 300 ?_)
                simp only [go_sem, Nat.reduceAdd, Nat.reduceMul, Nat.reduceSub, Nat.reduceBEq, Nat.reduceLT, Nat.reduceLeDiff, reduceIte, reduceCtorEq, Int.reduceToNat, Int.reduceLE, Int.reduceLT, Int.reduceNe, Int.reduceMul, Int.reduceAdd, Int.reduceSub, Int.reduceDiv, Int.reduceMod, Int.reduceEq, Int.reduceGE, Int.reduceGT, Int.reduceNeg, Int.reduceBEq, Int.reduceBNe, Nat.reduceEqDiff]
                refine ainv fc (Shift.weak ?_)
                simp only [wk, go_sem, Nat.reduceAdd, Nat.reduceMul, Nat.reduceSub, Nat.reduceBEq, Nat.reduceLT, Nat.reduceLeDiff, reduceIte, reduceCtorEq, Int.reduceToNat, Int.reduceLE, Int.reduceLT, Int.reduceNe, Int.reduceMul, Int.reduceAdd, Int.reduceSub, Int.reduceDiv, Int.reduceMod, Int.reduceEq, Int.reduceGE, Int.reduceGT, Int.reduceNeg, Int.reduceBEq, Int.reduceBNe, Nat.reduceEqDiff]
            · rintro ⟨⟩ _
              obtain ⟨q, hq⟩ : ∃ q, renP fr tu ps[k] = ⟨ps[k].kind, q⟩ := ⟨_, rfl⟩
              have hql : q.length < 1000000 := by
                have := ren_len fr tu ps[k]
                rw [hq] at this
                simp only at this
                have h3 : ps[k].text.length * (tu.length + 1) ≤ 2000 * 31 := Nat.mul_le_mul htx (by omega)
                omega
              have hcg : chgP fr tu ps[k] = (q != ps[k].text) := by simp only [chgP, hq]
              have hcl3 : (((ps.take k).map (renP fr tu) ++ ⟨ps[k].kind, q⟩ :: ps.drop (k + 1)).map paA).length = ps.length := by simp; omega
              have hpk3 : List.getD (((ps.take k).map (renP fr tu) ++ ⟨ps[k].kind, q⟩ :: ps.drop (k + 1)).map paA) k .any = .agg [.int .i64 ps[k].kind, .str q] := by
                rw [List.getD_eq_getElem?_getD, List.getElem?_map, List.getElem?_append_right (by simp; omega), List.length_map, htk, Nat.sub_self]
                rfl
              rw [hq] at fin2 ⊢
              simp only at fin2 ⊢
              refine goF (N := 149) Tryz.ntmps14 1 ?_
              simp only [go_sem, Nat.reduceAdd, Nat.reduceMul, Nat.reduceSub, Nat.reduceBEq, Nat.reduceLT, Nat.reduceLeDiff, reduceIte, reduceCtorEq, Int.reduceToNat, Int.reduceLE, Int.reduceLT, Int.reduceNe, Int.reduceMul, Int.reduceAdd, Int.reduceSub, Int.reduceDiv, Int.reduceMod, Int.reduceEq, Int.reduceGE, Int.reduceGT, Int.reduceNeg, Int.reduceBEq, Int.reduceBNe, Nat.reduceEqDiff]
              refine acut (ι := Unit)
                (fun _ => [(18, .str q), (17, .ptr (i + 6) ps.length k 0), (66, .int .i64 k), (65, .int .i64 ps.length), (15, .int .i64 i), (56, .int .i64 i), (55, .int .i64 xs.length), (12, .int .i64 ((manyL fr tu dn + (if chgP fr tu ps[k] then 1 else 0) : Nat) : Int)), (13, .bool (bigL fr tu dn)), (14, .bool (formL fr tu dn)), (11, .ptr (xs.length + 6) 1 0 0), (1, .str fr), (2, .str tu), (6, .ptr 1 1 0 0)])
                (fun _ => S (((ps.take k).map (renP fr tu) ++ ps.drop k).map paA)) (fun _ => True) ?_ ?_
              · intro Jc hJc
                have fc := hJc () trivial
                cases hc : (q != ps[k].text) with
                | true =>
                  rw [hc] at hcg
                  rw [hcg, if_pos rfl] at fc
                  refine goF (N := 149) Tryz.ntmps14 300 ?_
                  simp only [go_sem, Nat.reduceAdd, Nat.reduceMul, Nat.reduceSub, Nat.reduceBEq, Nat.reduceLT, Nat.reduceLeDiff, reduceIte, reduceCtorEq, Int.reduceToNat, Int.reduceLE, Int.reduceLT, Int.reduceNe, Int.reduceMul, Int.reduceAdd, Int.reduceSub, Int.reduceDiv, Int.reduceMod, Int.reduceEq, Int.reduceGE, Int.reduceGT, Int.reduceNeg, Int.reduceBEq, Int.reduceBNe, Nat.reduceEqDiff, hSb, hpk, hcl2, hc]
                  repeat refine And.intro (by first | omega | exact .inl trivial | rfl | (simp; done) | (simp; omega)) ?_
                  refine ainv fc (Shift.weak ?_)
                  simp only [wk, go_sem, Nat.reduceAdd, Nat.reduceMul, Nat.reduceSub, Nat.reduceBEq, Nat.reduceLT, Nat.reduceLeDiff, reduceIte, reduceCtorEq, Int.reduceToNat, Int.reduceLE, Int.reduceLT, Int.reduceNe, Int.reduceMul, Int.reduceAdd, Int.reduceSub, Int.reduceDiv, Int.reduceMod, Int.reduceEq, Int.reduceGE, Int.reduceGT, Int.reduceNeg, Int.reduceBEq, Int.reduceBNe, Nat.reduceEqDiff, Int.natCast_add, Int.natCast_one]
                | false =>
                  rw [hc] at hcg
                  rw [hcg, if_neg (by simp)] at fc
                  refine goF (N := 149) Tryz.ntmps14 300 ?_
                  simp only [go_sem, Nat.reduceAdd, Nat.reduceMul, Nat.reduceSub, Nat.reduceBEq, Nat.reduceLT, Nat.reduceLeDiff, reduceIte, reduceCtorEq, Int.reduceToNat, Int.reduceLE, Int.reduceLT, Int.reduceNe, Int.reduceMul, Int.reduceAdd, Int.reduceSub, Int.reduceDiv, Int.reduceMod, Int.reduceEq, Int.reduceGE, Int.reduceGT, Int.reduceNeg, Int.reduceBEq, Int.reduceBNe, Nat.reduceEqDiff, hSb, hpk, hcl2, hc]
                  repeat refine And.intro (by first | omega | exact .inl trivial | rfl | (simp; done) | (simp; omega)) ?_
                  refine ainv fc (Shift.weak ?_)
                  simp only [wk, go_sem, Nat.reduceAdd, Nat.reduceMul, Nat.reduceSub, Nat.reduceBEq, Nat.reduceLT, Nat.reduceLeDiff, reduceIte, reduceCtorEq, Int.reduceToNat, Int.reduceLE, Int.reduceLT, Int.reduceNe, Int.reduceMul, Int.reduceAdd, Int.reduceSub, Int.reduceDiv, Int.reduceMod, Int.reduceEq, Int.reduceGE, Int.reduceGT, Int.reduceNeg, Int.reduceBEq, Int.reduceBNe, Nat.reduceEqDiff, Nat.add_zero]
              · rintro ⟨⟩ _
                refine goF (N := 149) Tryz.ntmps14 14 ?_
                simp only [go_sem, Nat.reduceAdd, Nat.reduceMul, Nat.reduceSub, Nat.reduceBEq, Nat.reduceLT, Nat.reduceLeDiff, reduceIte, reduceCtorEq, Int.reduceToNat, Int.reduceLE, Int.reduceLT, Int.reduceNe, Int.reduceMul, Int.reduceAdd, Int.reduceSub, Int.reduceDiv, Int.reduceMod, Int.reduceEq, Int.reduceGE, Int.reduceGT, Int.reduceNeg, Int.reduceBEq, Int.reduceBNe, Nat.reduceEqDiff, hSb, hSs, hset, hpk, hcl2]
                repeat refine And.intro (by first | omega | exact .inl trivial | rfl | (simp; done) | (simp; omega)) ?_
                refine acut (ι := Unit)
                  (fun _ => [(18, .str q), (17, .ptr (i + 6) ps.length k 0), (66, .int .i64 k), (65, .int .i64 ps.length), (15, .int .i64 i), (56, .int .i64 i), (55, .int .i64 xs.length), (12, .int .i64 ((manyL fr tu dn + (if chgP fr tu ps[k] then 1 else 0) : Nat) : Int)), (13, .bool (bigL fr tu dn || bigP ⟨ps[k].kind, q⟩)), (14, .bool (formL fr tu dn)), (11, .ptr (xs.length + 6) 1 0 0), (1, .str fr), (2, .str tu), (6, .ptr 1 1 0 0)])
                  (fun _ => S (((ps.take k).map (renP fr tu) ++ ⟨ps[k].kind, q⟩ :: ps.drop (k + 1)).map paA)) (fun _ => True) ?_ ?_
                · intro Jc hJc
                  have fc := hJc () trivial
                  have hbp : bigP ⟨ps[k].kind, q⟩ = (decide ((q.length : Int) > 2000) || (ps[k].kind == 3 && decide ((q.length : Int) > 200))) := rfl
                  cases hL : bigL fr tu dn with
                  | true =>
                    rw [hL, Bool.true_or] at fc
                    refine goF (N := 149) Tryz.ntmps14 300 ?_
                    simp only [go_sem, Nat.reduceAdd, Nat.reduceMul, Nat.reduceSub, Nat.reduceBEq, Nat.reduceLT, Nat.reduceLeDiff, reduceIte, reduceCtorEq, Int.reduceToNat, Int.reduceLE, Int.reduceLT, Int.reduceNe, Int.reduceMul, Int.reduceAdd, Int.reduceSub, Int.reduceDiv, Int.reduceMod, Int.reduceEq, Int.reduceGE, Int.reduceGT, Int.reduceNeg, Int.reduceBEq, Int.reduceBNe, Nat.reduceEqDiff, hSb, hpk3, hcl3]
                    repeat refine And.intro (by first | omega | exact .inl trivial | rfl | (simp; done) | (simp; omega)) ?_
                    refine ainv fc (Shift.weak ?_)
                    simp only [wk, go_sem, Nat.reduceAdd, Nat.reduceMul, Nat.reduceSub, Nat.reduceBEq, Nat.reduceLT, Nat.reduceLeDiff, reduceIte, reduceCtorEq, Int.reduceToNat, Int.reduceLE, Int.reduceLT, Int.reduceNe, Int.reduceMul, Int.reduceAdd, Int.reduceSub, Int.reduceDiv, Int.reduceMod, Int.reduceEq, Int.reduceGE, Int.reduceGT, Int.reduceNeg, Int.reduceBEq, Int.reduceBNe, Nat.reduceEqDiff]
                  | false =>
                    rw [hL, hbp, Bool.false_or] at fc
                    cases d1 : decide ((q.length : Int) > 2000) with
                    | true =>
                      rw [d1, Bool.true_or] at fc
                      refine goF (N := 149) Tryz.ntmps14 300 ?_
                      simp only [go_sem, Nat.reduceAdd, Nat.reduceMul, Nat.reduceSub, Nat.reduceBEq, Nat.reduceLT, Nat.reduceLeDiff, reduceIte, reduceCtorEq, Int.reduceToNat, Int.reduceLE, Int.reduceLT, Int.reduceNe, Int.reduceMul, Int.reduceAdd, Int.reduceSub, Int.reduceDiv, Int.reduceMod, Int.reduceEq, Int.reduceGE, Int.reduceGT, Int.reduceNeg, Int.reduceBEq, Int.reduceBNe, Nat.reduceEqDiff, hSb, hpk3, hcl3, d1]
                      repeat refine And.intro (by first | omega | exact .inl trivial | rfl | (simp; done) | (simp; omega)) ?_
                      refine ainv fc (Shift.weak ?_)
                      simp only [wk, go_sem, Nat.reduceAdd, Nat.reduceMul, Nat.reduceSub, Nat.reduceBEq, Nat.reduceLT, Nat.reduceLeDiff, reduceIte, reduceCtorEq, Int.reduceToNat, Int.reduceLE, Int.reduceLT, Int.reduceNe, Int.reduceMul, Int.reduceAdd, Int.reduceSub, Int.reduceDiv, Int.reduceMod, Int.reduceEq, Int.reduceGE, Int.reduceGT, Int.reduceNeg, Int.reduceBEq, Int.reduceBNe, Nat.reduceEqDiff]
                    | false =>
                      rw [d1, Bool.false_or] at fc
                      cases k3 : ps[k].kind == 3 with
                      | false =>
                        rw [k3, Bool.false_and] at fc
                        refine goF (N := 149) Tryz.ntmps14 300 ?_
                        simp only [go_sem, Nat.reduceAdd, Nat.reduceMul, Nat.reduceSub, Nat.reduceBEq, Nat.reduceLT, Nat.reduceLeDiff, reduceIte, reduceCtorEq, Int.reduceToNat, Int.reduceLE, Int.reduceLT, Int.reduceNe, Int.reduceMul, Int.reduceAdd, Int.reduceSub, Int.reduceDiv, Int.reduceMod, Int.reduceEq, Int.reduceGE, Int.reduceGT, Int.reduceNeg, Int.reduceBEq, Int.reduceBNe, Nat.reduceEqDiff, hSb, hpk3, hcl3, d1, k3]
                        repeat refine And.intro (by first | omega | exact .inl trivial | rfl | (simp; done) | (simp; omega)) ?_
                        refine ainv fc (Shift.weak ?_)
                        simp only [wk, go_sem, Nat.reduceAdd, Nat.reduceMul, Nat.reduceSub, Nat.reduceBEq, Nat.reduceLT, Nat.reduceLeDiff, reduceIte, reduceCtorEq, Int.reduceToNat, Int.reduceLE, Int.reduceLT, Int.reduceNe, Int.reduceMul, Int.reduceAdd, Int.reduceSub, Int.reduceDiv, Int.reduceMod, Int.reduceEq, Int.reduceGE, Int.reduceGT, Int.reduceNeg, Int.reduceBEq, Int.reduceBNe, Nat.reduceEqDiff]
                      | true =>
                        rw [k3, Bool.true_and] at fc
                        cases d2 : decide ((q.length : Int) > 200) with
                        | true =>
                          rw [d2] at fc
                          refine goF (N := 149) Tryz.ntmps14 300 ?_
                          simp only [go_sem, Nat.reduceAdd, Nat.reduceMul, Nat.reduceSub, Nat.reduceBEq, Nat.reduceLT, Nat.reduceLeDiff, reduceIte, reduceCtorEq, Int.reduceToNat, Int.reduceLE, Int.reduceLT, Int.reduceNe, Int.reduceMul, Int.reduceAdd, Int.reduceSub, Int.reduceDiv, Int.reduceMod, Int.reduceEq, Int.reduceGE, Int.reduceGT, Int.reduceNeg, Int.reduceBEq, Int.reduceBNe, Nat.reduceEqDiff, hSb, hpk3, hcl3, d1, k3, d2]
                          repeat refine And.intro (by first | omega | exact .inl trivial | rfl | (simp; done) | (simp; omega)) ?_
                          refine ainv fc (Shift.weak ?_)
                          simp only [wk, go_sem, Nat.reduceAdd, Nat.reduceMul, Nat.reduceSub, Nat.reduceBEq, Nat.reduceLT, Nat.reduceLeDiff, reduceIte, reduceCtorEq, Int.reduceToNat, Int.reduceLE, Int.reduceLT, Int.reduceNe, Int.reduceMul, Int.reduceAdd, Int.reduceSub, Int.reduceDiv, Int.reduceMod, Int.reduceEq, Int.reduceGE, Int.reduceGT, Int.reduceNeg, Int.reduceBEq, Int.reduceBNe, Nat.reduceEqDiff]
                        | false =>
                          rw [d2] at fc
                          refine goF (N := 149) Tryz.ntmps14 300 ?_
                          simp only [go_sem, Nat.reduceAdd, Nat.reduceMul, Nat.reduceSub, Nat.reduceBEq, Nat.reduceLT, Nat.reduceLeDiff, reduceIte, reduceCtorEq, Int.reduceToNat, Int.reduceLE, Int.reduceLT, Int.reduceNe, Int.reduceMul, Int.reduceAdd, Int.reduceSub, Int.reduceDiv, Int.reduceMod, Int.reduceEq, Int.reduceGE, Int.reduceGT, Int.reduceNeg, Int.reduceBEq, Int.reduceBNe, Nat.reduceEqDiff, hSb, hpk3, hcl3, d1, k3, d2]
                          repeat refine And.intro (by first | omega | exact .inl trivial | rfl | (simp; done) | (simp; omega)) ?_
                          refine ainv fc (Shift.weak ?_)
                          simp only [wk, go_sem, Nat.reduceAdd, Nat.reduceMul, Nat.reduceSub, Nat.reduceBEq, Nat.reduceLT, Nat.reduceLeDiff, reduceIte, reduceCtorEq, Int.reduceToNat, Int.reduceLE, Int.reduceLT, Int.reduceNe, Int.reduceMul, Int.reduceAdd, Int.reduceSub, Int.reduceDiv, Int.reduceMod, Int.reduceEq, Int.reduceGE, Int.reduceGT, Int.reduceNeg, Int.reduceBEq, Int.reduceBNe, Nat.reduceEqDiff]
                · rintro ⟨⟩ _
                  have hfp : formP ⟨ps[k].kind, q⟩ = (ps[k].kind == 5 && !isTurnL q) := rfl
                  cases hL : formL fr tu dn with
                  | true =>
                    rw [hL, Bool.true_or] at fin2
                    refine goF (N := 149) Tryz.ntmps14 300 ?_
                    simp only [go_sem, Nat.reduceAdd, Nat.reduceMul, Nat.reduceSub, Nat.reduceBEq, Nat.reduceLT, Nat.reduceLeDiff, reduceIte, reduceCtorEq, Int.reduceToNat, Int.reduceLE, Int.reduceLT, Int.reduceNe, Int.reduceMul, Int.reduceAdd, Int.reduceSub, Int.reduceDiv, Int.reduceMod, Int.reduceEq, Int.reduceGE, Int.reduceGT, Int.reduceNeg, Int.reduceBEq, Int.reduceBNe, Nat.reduceEqDiff, hSb, hpk3, hcl3]
                    repeat refine And.intro (by first | omega | exact .inl trivial | rfl | (simp; done) | (simp; omega)) ?_
                    rw [show (k : Int) + 1 = ((k + 1 : Nat) : Int) by omega]
                    refine ainv fin2 (Shift.weak ?_)
                    simp only [wk, go_sem, Nat.reduceAdd, Nat.reduceMul, Nat.reduceSub, Nat.reduceBEq, Nat.reduceLT, Nat.reduceLeDiff, reduceIte, reduceCtorEq, Int.reduceToNat, Int.reduceLE, Int.reduceLT, Int.reduceNe, Int.reduceMul, Int.reduceAdd, Int.reduceSub, Int.reduceDiv, Int.reduceMod, Int.reduceEq, Int.reduceGE, Int.reduceGT, Int.reduceNeg, Int.reduceBEq, Int.reduceBNe, Nat.reduceEqDiff]
                  | false =>
                    rw [hL, hfp, Bool.false_or] at fin2
                    cases k5 : ps[k].kind == 5 with
                    | false =>
                      rw [k5, Bool.false_and] at fin2
                      refine goF (N := 149) Tryz.ntmps14 300 ?_
                      simp only [go_sem, Nat.reduceAdd, Nat.reduceMul, Nat.reduceSub, Nat.reduceBEq, Nat.reduceLT, Nat.reduceLeDiff, reduceIte, reduceCtorEq, Int.reduceToNat, Int.reduceLE, Int.reduceLT, Int.reduceNe, Int.reduceMul, Int.reduceAdd, Int.reduceSub, Int.reduceDiv, Int.reduceMod, Int.reduceEq, Int.reduceGE, Int.reduceGT, Int.reduceNeg, Int.reduceBEq, Int.reduceBNe, Nat.reduceEqDiff, hSb, hpk3, hcl3, k5]
                      repeat refine And.intro (by first | omega | exact .inl trivial | rfl | (simp; done) | (simp; omega)) ?_
                      rw [show (k : Int) + 1 = ((k + 1 : Nat) : Int) by omega]
                      refine ainv fin2 (Shift.weak ?_)
                      simp only [wk, go_sem, Nat.reduceAdd, Nat.reduceMul, Nat.reduceSub, Nat.reduceBEq, Nat.reduceLT, Nat.reduceLeDiff, reduceIte, reduceCtorEq, Int.reduceToNat, Int.reduceLE, Int.reduceLT, Int.reduceNe, Int.reduceMul, Int.reduceAdd, Int.reduceSub, Int.reduceDiv, Int.reduceMod, Int.reduceEq, Int.reduceGE, Int.reduceGT, Int.reduceNeg, Int.reduceBEq, Int.reduceBNe, Nat.reduceEqDiff]
                    | true =>
                      rw [k5, Bool.true_and] at fin2
                      cases hT : isTurnL q with
                      | true =>
                        rw [hT] at fin2
                        refine goF (N := 149) Tryz.ntmps14 300 ?_
                        simp only [go_sem, Nat.reduceAdd, Nat.reduceMul, Nat.reduceSub, Nat.reduceBEq, Nat.reduceLT, Nat.reduceLeDiff, reduceIte, reduceCtorEq, Int.reduceToNat, Int.reduceLE, Int.reduceLT, Int.reduceNe, Int.reduceMul, Int.reduceAdd, Int.reduceSub, Int.reduceDiv, Int.reduceMod, Int.reduceEq, Int.reduceGE, Int.reduceGT, Int.reduceNeg, Int.reduceBEq, Int.reduceBNe, Nat.reduceEqDiff, hSb, hpk3, hcl3, k5]
                        repeat refine And.intro (by first | omega | exact .inl trivial | rfl | (simp; done) | (simp; omega)) ?_
                        refine pcall1 (isTurn_pc q hql) rfl (N := 149) Tryz.ntmps14 rfl (goF (N := 149) Tryz.ntmps14 300 ?_)
                        simp only [go_sem, Nat.reduceAdd, Nat.reduceMul, Nat.reduceSub, Nat.reduceBEq, Nat.reduceLT, Nat.reduceLeDiff, reduceIte, reduceCtorEq, Int.reduceToNat, Int.reduceLE, Int.reduceLT, Int.reduceNe, Int.reduceMul, Int.reduceAdd, Int.reduceSub, Int.reduceDiv, Int.reduceMod, Int.reduceEq, Int.reduceGE, Int.reduceGT, Int.reduceNeg, Int.reduceBEq, Int.reduceBNe, Nat.reduceEqDiff, hT]
                        repeat refine And.intro (by first | omega | exact .inl trivial | rfl | (simp; done) | (simp; omega)) ?_
                        rw [show (k : Int) + 1 = ((k + 1 : Nat) : Int) by omega]
                        refine ainv fin2 (Shift.weak ?_)
                        simp only [wk, go_sem, Nat.reduceAdd, Nat.reduceMul, Nat.reduceSub, Nat.reduceBEq, Nat.reduceLT, Nat.reduceLeDiff, reduceIte, reduceCtorEq, Int.reduceToNat, Int.reduceLE, Int.reduceLT, Int.reduceNe, Int.reduceMul, Int.reduceAdd, Int.reduceSub, Int.reduceDiv, Int.reduceMod, Int.reduceEq, Int.reduceGE, Int.reduceGT, Int.reduceNeg, Int.reduceBEq, Int.reduceBNe, Nat.reduceEqDiff]
                      | false =>
                        rw [hT] at fin2
                        refine goF (N := 149) Tryz.ntmps14 300 ?_
                        simp only [go_sem, Nat.reduceAdd, Nat.reduceMul, Nat.reduceSub, Nat.reduceBEq, Nat.reduceLT, Nat.reduceLeDiff, reduceIte, reduceCtorEq, Int.reduceToNat, Int.reduceLE, Int.reduceLT, Int.reduceNe, Int.reduceMul, Int.reduceAdd, Int.reduceSub, Int.reduceDiv, Int.reduceMod, Int.reduceEq, Int.reduceGE, Int.reduceGT, Int.reduceNeg, Int.reduceBEq, Int.reduceBNe, Nat.reduceEqDiff, hSb, hpk3, hcl3, k5]
                        repeat refine And.intro (by first | omega | exact .inl trivial | rfl | (simp; done) | (simp; omega)) ?_
                        refine pcall1 (isTurn_pc q hql) rfl (N := 149) Tryz.ntmps14 rfl (goF (N := 149) Tryz.ntmps14 300 ?_)
                        simp only [go_sem, Nat.reduceAdd, Nat.reduceMul, Nat.reduceSub, Nat.reduceBEq, Nat.reduceLT, Nat.reduceLeDiff, reduceIte, reduceCtorEq, Int.reduceToNat, Int.reduceLE, Int.reduceLT, Int.reduceNe, Int.reduceMul, Int.reduceAdd, Int.reduceSub, Int.reduceDiv, Int.reduceMod, Int.reduceEq, Int.reduceGE, Int.reduceGT, Int.reduceNeg, Int.reduceBEq, Int.reduceBNe, Nat.reduceEqDiff, hT]
                        repeat refine And.intro (by first | omega | exact .inl trivial | rfl | (simp; done) | (simp; omega)) ?_
                        rw [show (k : Int) + 1 = ((k + 1 : Nat) : Int) by omega]
                        refine ainv fin2 (Shift.weak ?_)
                        simp only [wk, go_sem, Nat.reduceAdd, Nat.reduceMul, Nat.reduceSub, Nat.reduceBEq, Nat.reduceLT, Nat.reduceLeDiff, reduceIte, reduceCtorEq, Int.reduceToNat, Int.reduceLE, Int.reduceLT, Int.reduceNe, Int.reduceMul, Int.reduceAdd, Int.reduceSub, Int.reduceDiv, Int.reduceMod, Int.reduceEq, Int.reduceGE, Int.reduceGT, Int.reduceNeg, Int.reduceBEq, Int.reduceBNe, Nat.reduceEqDiff]
          · have dk : decide ((k : Int) < (ps.length : Int)) = false := by simp; omega
            have hk : k = ps.length := by omega
            subst hk
            rw [List.take_length, List.drop_length, List.append_nil]
            have hre : scA (renS fr tu xs[i]) = .agg [.str xs[i].no, .int .i64 xs[i].place, .str xs[i].set, .int .i64 xs[i].time, .fz 2 ((ps.map (renP fr tu)).map paA)] := by
              simp only [scA, renS, hps']
            have hde : doneB xs[i] = .dead := by simp only [doneB, he, cond_false]
            have htab2 : (List.set (S ((ps.map (renP fr tu)).map paA)) (i + 6) .dead).map (frzB (i + 6) 2 ((ps.map (renP fr tu)).map paA)) = tabR ti xs fr tu (i + 1) := by
              have hs0 := tabC_s0 (b0 := .arr 2 [.agg [.str ti, .fz 5 (xs.map scA)]]) (b1 := zeroBk) (b2 := .arr 2 [.agg [.str ti, .fz 5 (xs.map scA)]]) (b3 := outBk ti xs.length) (o := outBk ti xs.length) (sc := .arr 5 SC) (V := (xs.take i).map doneB) (r := .arr 2 ((ps.map (renP fr tu)).map paA) :: ((xs.drop (i + 1)).map blkM ++ [outBk ti xs.length])) .dead
              rw [hdl] at hs0
              rw [hS1]
              simp only [hs0, List.set_cons_zero]
              rw [tabC_map, frzB_done, frzB_out _ _ (by omega), List.map_cons, List.map_append, frzB_blkM, List.map_cons, frzB_out _ _ (by omega), List.map_nil]
              unfold tabR
              rw [List.take_succ_eq_append_getElem gi, List.map_append, List.map_append, List.map_cons, List.map_nil, List.map_cons, List.map_nil, hde, hre, ← tabC_move]
              have hsc2 : frzB (i + 6) 2 ((ps.map (renP fr tu)).map paA) (.arr 5 SC) = .arr 5 (List.map (fun y => scA (renS fr tu y)) (List.take i xs) ++ [AV.agg [.str xs[i].no, .int .i64 xs[i].place, .str xs[i].set, .int .i64 xs[i].time, .fz 2 ((ps.map (renP fr tu)).map paA)]] ++ hsc (i + 1 + 6) (List.drop (i + 1) xs)) := by
                rw [← hSC]
                simp only [frzB, List.map_append, List.map_cons]
                rw [frz_all_map (fun _ => rfl), frz_hsc _ _ (by omega)]
                have : frz (i + 6) 2 ((ps.map (renP fr tu)).map paA) (AV.agg [.str xs[i].no, .int .i64 xs[i].place, .str xs[i].set, .int .i64 xs[i].time, .sl (i + 6) 0 xs[i].paras.length xs[i].paras.length]) = AV.agg [.str xs[i].no, .int .i64 xs[i].place, .str xs[i].set, .int .i64 xs[i].time, .fz 2 ((ps.map (renP fr tu)).map paA)] := by
                  rw [hps']
                  simp [frz, frz1]
                  exact List.take_of_length_le (by simp)
                rw [this]
                simp
              rw [hsc2]
              rfl
            refine AWp.shift (Shift.frz (i + 6) (hSb _) (frozen_paras _)) ?_
            rw [htab2]
            simp only [frzE, frz, frz1]
            refine goF (N := 149) Tryz.ntmps14 300 ?_
            simp only [go_sem, Nat.reduceAdd, Nat.reduceMul, Nat.reduceSub, Nat.reduceBEq, Nat.reduceLT, Nat.reduceLeDiff, reduceIte, reduceCtorEq, Int.reduceToNat, Int.reduceLE, Int.reduceLT, Int.reduceNe, Int.reduceMul, Int.reduceAdd, Int.reduceSub, Int.reduceDiv, Int.reduceMod, Int.reduceEq, Int.reduceGE, Int.reduceGT, Int.reduceNeg, Int.reduceBEq, Int.reduceBNe, Nat.reduceEqDiff, dk]
            repeat refine And.intro (by first | omega | exact .inl trivial | rfl | (simp; done) | (simp; omega)) ?_
            rw [show (i : Int) + 1 = ((i + 1 : Nat) : Int) by omega]
            refine ainv fin (Shift.weakS ?_ rfl)
            simp only [wk, go_sem, Nat.reduceAdd, Nat.reduceMul, Nat.reduceSub, Nat.reduceBEq, Nat.reduceLT, Nat.reduceLeDiff, reduceIte, reduceCtorEq, Int.reduceToNat, Int.reduceLE, Int.reduceLT, Int.reduceNe, Int.reduceMul, Int.reduceAdd, Int.reduceSub, Int.reduceDiv, Int.reduceMod, Int.reduceEq, Int.reduceGE, Int.reduceGT, Int.reduceNeg, Int.reduceBEq, Int.reduceBNe, Nat.reduceEqDiff]
            rw [← hps']
            simp only [paras_snoc gi]
            exact ⟨trivial, trivial, trivial⟩
    · have di : decide ((i : Int) < (xs.length : Int)) = false := by simp; omega
      have hi : i = xs.length := by omega
      subst hi
      have hcells : (tabR ti xs fr tu xs.length) = tabC (.arr 2 [.agg [.str ti, .fz 5 (xs.map scA)]]) zeroBk (.arr 2 [.agg [.str ti, .fz 5 (xs.map scA)]]) (outBk ti xs.length) (xs.map doneB) (outBk ti xs.length) (.arr 5 (xs.map (fun y => scA (renS fr tu y)))) [outBk ti xs.length] := by
        unfold tabR
        rw [List.take_length, List.drop_length]
        simp [hsc]
      have hcs : (xs.map (fun y => scA (renS fr tu y))) = (xs.map (renS fr tu)).map scA := by rw [List.map_map]; rfl
      have hdl : (xs.map doneB).length = xs.length := by simp
      rw [hcells, hcs, List.take_length]
      refine AWp.shift (Shift.frz 5 (es := 5) (l := (xs.map (renS fr tu)).map scA) rfl (frozen_scenes _)) ?_
      have hob : frzB 5 5 ((xs.map (renS fr tu)).map scA) (outBk ti xs.length) = .arr 2 [.agg [.str ti, .fz 5 ((xs.map (renS fr tu)).map scA)]] := by
        simp [outBk, frzB, frz, frz1]
        exact List.take_of_length_le (by simp)
      rw [tabC_ssc, tabC_map, frzB_done, hob, List.map_cons, hob, List.map_nil]
      have hz : frzB 5 5 ((xs.map (renS fr tu)).map scA) zeroBk = .arr 2 [.agg [.str [], .raw (.slice none 0 0)]] := rfl
      rw [hz]
      simp only [frzE, frz, frz1]
      obtain ⟨T, hT⟩ : ∃ T : Blk → List Blk, T = fun b => tabC (frzB 5 5 ((xs.map (renS fr tu)).map scA) (.arr 2 [.agg [.str ti, .fz 5 (xs.map scA)]])) b (frzB 5 5 ((xs.map (renS fr tu)).map scA) (.arr 2 [.agg [.str ti, .fz 5 (xs.map scA)]])) (.arr 2 [.agg [.str ti, .fz 5 ((xs.map (renS fr tu)).map scA)]]) (xs.map doneB) (.arr 2 [.agg [.str ti, .fz 5 ((xs.map (renS fr tu)).map scA)]]) (frzB 5 5 ((xs.map (renS fr tu)).map scA) .dead) [.arr 2 [.agg [.str ti, .fz 5 ((xs.map (renS fr tu)).map scA)]]] := ⟨_, rfl⟩
      have hT0 : tabC (frzB 5 5 ((xs.map (renS fr tu)).map scA) (.arr 2 [.agg [.str ti, .fz 5 (xs.map scA)]])) (.arr 2 [.agg [.str [], .raw (.slice none 0 0)]]) (frzB 5 5 ((xs.map (renS fr tu)).map scA) (.arr 2 [.agg [.str ti, .fz 5 (xs.map scA)]])) (.arr 2 [.agg [.str ti, .fz 5 ((xs.map (renS fr tu)).map scA)]]) (xs.map doneB) (.arr 2 [.agg [.str ti, .fz 5 ((xs.map (renS fr tu)).map scA)]]) (frzB 5 5 ((xs.map (renS fr tu)).map scA) .dead) [.arr 2 [.agg [.str ti, .fz 5 ((xs.map (renS fr tu)).map scA)]]] = T (.arr 2 [.agg [.str [], .raw (.slice none 0 0)]]) := by rw [hT]
      rw [hT0]
      have hT1 : ∀ b, (T b).getD 1 .dead = b := fun b => by rw [hT]; rfl
      have hTs : ∀ b b', (T b).set 1 b' = T b' := fun b b' => by rw [hT]; rfl
      have hTo : ∀ b, (T b).getD (xs.length + 6) .dead = .arr 2 [.agg [.str ti, .fz 5 ((xs.map (renS fr tu)).map scA)]] := fun b => by
        rw [hT]
        simp only
        rw [← hdl, tabC_g0]
        rfl
      clear hT hT0
      cases hbg : bigL fr tu (parasOf xs) with
      | true =>
        refine goF (N := 149) Tryz.ntmps14 300 ?_
        simp only [go_sem, Nat.reduceAdd, Nat.reduceMul, Nat.reduceSub, Nat.reduceBEq, Nat.reduceLT, Nat.reduceLeDiff, reduceIte, reduceCtorEq, Int.reduceToNat, Int.reduceLE, Int.reduceLT, Int.reduceNe, Int.reduceMul, Int.reduceAdd, Int.reduceSub, Int.reduceDiv, Int.reduceMod, Int.reduceEq, Int.reduceGE, Int.reduceGT, Int.reduceNeg, Int.reduceBEq, Int.reduceBNe, Nat.reduceEqDiff, di, hT1, hTs, hTo]
        repeat refine And.intro (by first | omega | exact .inl trivial | rfl | (simp; done) | (simp; omega)) ?_
        exact aretc [.cell 6 37, .tmp 7, .tmp 8] rfl [_, _, _] ⟨by simp only [go_sem, Nat.reduceAdd, Nat.reduceMul, Nat.reduceSub, Nat.reduceBEq, Nat.reduceLT, Nat.reduceLeDiff, reduceIte, reduceCtorEq, Int.reduceToNat, Int.reduceLE, Int.reduceLT, Int.reduceNe, Int.reduceMul, Int.reduceAdd, Int.reduceSub, Int.reduceDiv, Int.reduceMod, Int.reduceEq, Int.reduceGE, Int.reduceGT, Int.reduceNeg, Int.reduceBEq, Int.reduceBNe, Nat.reduceEqDiff, sideIs, hT1], rfl, rfl, trivial⟩ ⟨.inr ⟨2, .inl rfl, .inl trivial, rfl⟩, rfl⟩
      | false =>
        cases hfm : formL fr tu (parasOf xs) with
        | true =>
          refine goF (N := 149) Tryz.ntmps14 300 ?_
          simp only [go_sem, Nat.reduceAdd, Nat.reduceMul, Nat.reduceSub, Nat.reduceBEq, Nat.reduceLT, Nat.reduceLeDiff, reduceIte, reduceCtorEq, Int.reduceToNat, Int.reduceLE, Int.reduceLT, Int.reduceNe, Int.reduceMul, Int.reduceAdd, Int.reduceSub, Int.reduceDiv, Int.reduceMod, Int.reduceEq, Int.reduceGE, Int.reduceGT, Int.reduceNeg, Int.reduceBEq, Int.reduceBNe, Nat.reduceEqDiff, di, hT1, hTs, hTo]
          repeat refine And.intro (by first | omega | exact .inl trivial | rfl | (simp; done) | (simp; omega)) ?_
          exact aretc [.cell 6 37, .tmp 7, .tmp 8] rfl [_, _, _] ⟨by simp only [go_sem, Nat.reduceAdd, Nat.reduceMul, Nat.reduceSub, Nat.reduceBEq, Nat.reduceLT, Nat.reduceLeDiff, reduceIte, reduceCtorEq, Int.reduceToNat, Int.reduceLE, Int.reduceLT, Int.reduceNe, Int.reduceMul, Int.reduceAdd, Int.reduceSub, Int.reduceDiv, Int.reduceMod, Int.reduceEq, Int.reduceGE, Int.reduceGT, Int.reduceNeg, Int.reduceBEq, Int.reduceBNe, Nat.reduceEqDiff, sideIs, hT1], rfl, rfl, trivial⟩ ⟨.inr ⟨3, .inr rfl, .inr trivial, rfl⟩, rfl⟩
        | false =>
          refine goF (N := 149) Tryz.ntmps14 300 ?_
          simp only [go_sem, Nat.reduceAdd, Nat.reduceMul, Nat.reduceSub, Nat.reduceBEq, Nat.reduceLT, Nat.reduceLeDiff, reduceIte, reduceCtorEq, Int.reduceToNat, Int.reduceLE, Int.reduceLT, Int.reduceNe, Int.reduceMul, Int.reduceAdd, Int.reduceSub, Int.reduceDiv, Int.reduceMod, Int.reduceEq, Int.reduceGE, Int.reduceGT, Int.reduceNeg, Int.reduceBEq, Int.reduceBNe, Nat.reduceEqDiff, di, hT1, hTs, hTo]
          repeat refine And.intro (by first | omega | exact .inl trivial | rfl | (simp; done) | (simp; omega)) ?_
          exact aretc [.cell 6 37, .tmp 7, .tmp 8] rfl [.agg [.str ti, .fz 5 ((xs.map (renS fr tu)).map scA)], _, _] ⟨by simp only [go_sem, Nat.reduceAdd, Nat.reduceMul, Nat.reduceSub, Nat.reduceBEq, Nat.reduceLT, Nat.reduceLeDiff, reduceIte, reduceCtorEq, Int.reduceToNat, Int.reduceLE, Int.reduceLT, Int.reduceNe, Int.reduceMul, Int.reduceAdd, Int.reduceSub, Int.reduceDiv, Int.reduceMod, Int.reduceEq, Int.reduceGE, Int.reduceGT, Int.reduceNeg, Int.reduceBEq, Int.reduceBNe, Nat.reduceEqDiff, sideIs, hT1], rfl, rfl, trivial⟩ ⟨.inl rfl, rfl⟩
end Go.Proofs.YtpjbbpilgfihbaaGreatDoor
/- The reader of scripts, at the constant's lines. Own work of this seat. -/
set_option maxRecDepth 100000
set_option linter.unusedSimpArgs false
set_option linter.unusedVariables false
namespace Go.Proofs.YtpjbbpilgfihbaaGreatDoor
open Go Go.Av Go.RowKit
attribute [local go_sem ↓] br_true br_false dbr_true dbr_false dbri_true dbri_false dbrg_true dbrg_false
attribute [local go_sem] run cont br dbr dx dxc dgrd dyld dres dcall calm fieldPlace? allHas step1 opN grdN resN condN exitN stopN exitIt dOk xop xbin xint xarith xstr xbool xpick xnot xneg xextract xpart xpartOk xindex xfieldF fieldD xnew xbox xalloc xfieldAddr xptrAddIf xindexAddr xloadC xload putCells reElem xstoreB xstore xconv xtext xlen xlen2 xcall xfill xbuild cut rep xbuildSlice xbuildSliceD isRow elemD isU8 ev evs evp Go.Av.put Go.Av.get ofConst yldD yldV notBool_undef args0 cellsOf cond_true cond_false decide_true decide_false decide_eq_true_eq decide_eq_false_iff_not List.getElem?_cons_zero List.getElem?_cons_succ List.getElem?_nil List.getD_cons_zero List.getD_cons_succ List.getD_nil List.set_cons_zero List.set_cons_succ List.length_cons List.length_nil List.cons_append List.nil_append List.append_nil List.all_cons List.all_nil List.map_cons List.map_nil List.take_succ_cons List.take_zero List.drop_succ_cons List.drop_zero Bool.and_true Bool.true_and Bool.and_self Bool.and_false Bool.false_and one Go.Av.frozen beq_self_eq_true true_and and_true forall_const false_implies implies_true and_self Option.map_some Option.map_none Nat.zero_add Nat.add_zero Nat.zero_mul Nat.mul_one Nat.one_mul Int.toNat_zero ne_eq not_false_eq_true not_true_eq_false Bool.true_eq_false Bool.false_eq_true List.toList_toArray inr Go.Av.byteOf isByte decide_eq_decide Bool.not_true Bool.not_false Bool.not_eq_true' Bool.or_true Bool.true_or Bool.or_false Bool.false_or ge_iff_le gt_iff_lt and_assoc Bool.decide_eq_true beq_iff_eq beq_eq_false_iff_ne bne_iff_ne bne_self_eq_false if_true if_false Bool.and_eq_true Bool.or_eq_true Bool.and_eq_false_imp Bool.or_eq_false_iff Bool.not_eq_false' has Option.isSome_some Option.isSome_none Int.toNat_natCast Int.cast_ofNat_Int List.length_append xapp2 xapp xappS xappD xappB notInt srcOf srcB byteAV splice' xcut xcutS xcutF xcutB xcutN xcut0 cutL loOf hiOf evo xmake zelem xmax xcopy2 xcopyS xcopyB xnil xcut3 ixOf xclear2 xclearB List.getElem?_toArray xbin2 xnileq xempty xmkmap xmput xmputB xmputF isKey keyEq mfind xbin3 xeqs xeqop eqFs bothB leafEq xlook xlookB xlookF xbytes beq_c_n beq_n_c bne_c_n bne_n_c one_nil dxi dxic dbri rix dck reader blind opOk refOk Go.Op.operands Go.Call.operands List.contains_cons List.contains_nil dxg dxgc dbrg pck putD List.lookup_cons List.lookup_nil ts2 tb2 zl2 za2 Tryz.underlying2 ts3 tb3 zl3 za3 Tryz.underlying3 ts4 tb4 zl4 za4 Tryz.underlying4 ts5 tb5 zl5 za5 Tryz.underlying5 ts6 tb6 zl6 za6 Tryz.underlying6 ts7 tb7 za7 Tryz.underlying7 ts8 tb8 za8 Tryz.underlying8 ts9 tb9 zl9 za9 Tryz.underlying9 ts10 tb10 zl10 za10 Tryz.underlying10 ts11 tb11 zl11 za11 Tryz.underlying11 ts12 tb12 zl12 za12 Tryz.underlying12 ts13 tb13 za13 Tryz.underlying13 ts14 tb14 za14 Tryz.underlying14 ts18 tb18 za18 Tryz.underlying18 ts19 tb19 za19 Tryz.underlying19 ts21 tb21 zl21 za21 Tryz.underlying21 ts22 tb22 zl22 za22 Tryz.underlying22 ts24 tb24 za24 Tryz.underlying24 ts25 tb25 za25 Tryz.underlying25 ts27 tb27 zl27 za27 Tryz.underlying27 ts35 tb35 zl35 za35 Tryz.underlying35 ts36 tb36 za36 Tryz.underlying36 ts37 tb37 za37 Tryz.underlying37 ts39 tb39 zl39 za39 Tryz.underlying39 ts41 tb41 za41 Tryz.underlying41 ts42 tb42 za42 Tryz.underlying42 ts63 tb63 zl63 za63 Tryz.underlying63 ts64 tb64 zl64 za64 Tryz.underlying64 ts65 tb65 za65 Tryz.underlying65 ts66 tb66 za66 Tryz.underlying66 ts67 tb67 zl67 za67 Tryz.underlying67 ts69 tb69 za69 Tryz.underlying69 ts70 tb70 za70 Tryz.underlying70 ts73 tb73 za73 Tryz.underlying73 ts74 tb74 za74 Tryz.underlying74 ts75 tb75 zl75 za75 Tryz.underlying75 ts82 tb82 zl82 za82 Tryz.underlying82 ts96 tb96 za96 Tryz.underlying96 ts97 tb97 za97 Tryz.underlying97 ts103 tb103 za103 Tryz.underlying103 ts104 tb104 za104 Tryz.underlying104 ts109 tb109 zl109 za109 Tryz.underlying109 ts116 tb116 zl116 za116 Tryz.underlying116 ts117 tb117 za117 Tryz.underlying117 ts118 tb118 za118 Tryz.underlying118 ts120 tb120 zl120 za120 Tryz.underlying120 ts124 tb124 zl124 za124 Tryz.underlying124 ts126 tb126 za126 Tryz.underlying126 ts128 tb128 zl128 za128 Tryz.underlying128 ts130 tb130 za130 Tryz.underlying130 ts131 tb131 za131 Tryz.underlying131 ts153 tb153 zl153 za153 Tryz.underlying153 ts167 tb167 zl167 za167 Tryz.underlying167 ts171 tb171 zl171 za171 Tryz.underlying171 ts177 tb177 zl177 za177 Tryz.underlying177 ts183 tb183 zl183 za183 Tryz.underlying183 ts189 tb189 zl189 za189 Tryz.underlying189 ts191 tb191 zl191 za191 Tryz.underlying191 ts195 tb195 za195 Tryz.underlying195 ts196 tb196 za196 Tryz.underlying196 ts198 tb198 zl198 za198 Tryz.underlying198 ts203 tb203 Tryz.underlying203 ts209 tb209 za209 Tryz.underlying209 ts210 tb210 za210 Tryz.underlying210 ts211 tb211 Tryz.underlying211 ts216 tb216 za216 Tryz.underlying216 ts217 tb217 za217 Tryz.underlying217 ts220 tb220 Tryz.underlying220 ts225 tb225 Tryz.underlying225 ts226 tb226 Tryz.underlying226 ts227 tb227 za227 Tryz.underlying227 ts228 tb228 za228 Tryz.underlying228 ts232 tb232 zl232 za232 Tryz.underlying232 ts233 tb233 zl233 za233 Tryz.underlying233 ts235 tb235 zl235 za235 Tryz.underlying235 ts236 tb236 zl236 za236 Tryz.underlying236 ts237 tb237 za237 Tryz.underlying237 ts238 tb238 za238 Tryz.underlying238


theorem t35 : ((35 : UInt8).toNat : Int) = 35 := rfl
theorem t82 : ((82 : UInt8).toNat : Int) = 82 := rfl
theorem pre_head : Lib.trimPrefix [35, 32, 73, 78, 84, 46, 32, 72, 65, 76, 76, 32, 45, 32, 68, 65, 89] [35, 32] = [73, 78, 84, 46, 32, 72, 65, 76, 76, 32, 45, 32, 68, 65, 89] := by decide
theorem has_head : Lib.hasPrefix [35, 32, 73, 78, 84, 46, 32, 72, 65, 76, 76, 32, 45, 32, 68, 65, 89] [35, 32] = true := by decide
/-- the cell of the result, and the reader, early on -/
def T0 (k : Int) : List Blk := [.arr 2 [.agg [.str [], .raw (.slice none 0 0)]], .arr 3 [.agg [.str [84], .raw (.slice none 0 0), .int .i64 k]]]

theorem line1_ct : Ct Tryz.prog 63 [.ptr 1 1 0 0, .str []] (T0 0) (fun r s => r = .bool true ∧ s = T0 1) := by
  refine ct_intro Tryz.func63 rfl Tryz.ntmps63 hB63 (by simp) fun h ρ w => go (N := 56) Tryz.ntmps63 300 ?_
  simp only [go_sem, Nat.reduceAdd, Nat.reduceMul, Nat.reduceSub, Nat.reduceBEq, Nat.reduceLT, Nat.reduceLeDiff, reduceIte, reduceCtorEq, Int.reduceToNat, Int.reduceLE, Int.reduceLT, Int.reduceNe, Int.reduceMul, Int.reduceAdd, Int.reduceSub, Int.reduceDiv, Int.reduceMod, Int.reduceEq, Int.reduceGE, Int.reduceGT, Int.reduceNeg, Int.reduceBEq, Int.reduceBNe, Nat.reduceEqDiff, T0]
  exact aret [4] rfl ⟨rfl, rfl⟩

/-- .. and once it has a scene -/
def T1 (k : Int) : List Blk := [.arr 2 [.agg [.str [], .raw (.slice none 0 0)]], .arr 3 [.agg [.str [84], .sl 3 0 1 1, .int .i64 k]],
  .arr 5 [.agg [.str [], .int .i64 1, .str [72, 65, 76, 76], .int .i64 1, .raw (.slice none 0 0)]], .arr 5 [.agg [.str [], .int .i64 1, .str [72, 65, 76, 76], .int .i64 1, .raw (.slice none 0 0)]]]

theorem begins1_ct {S : Std} (hS : LibOk S) : CtH Tryz.prog S 96 [.ptr 1 1 0 0, .str [35, 32, 73, 78, 84, 46, 32, 72, 65, 76, 76, 32, 45, 32, 68, 65, 89]] (T0 1) (fun r s => r = .bool true ∧ s = T1 3) := by
  refine cth_intro Tryz.func96 rfl Tryz.ntmps96 hB96 (by simp) fun h ρ w hg => go (N := 96) Tryz.ntmps96 300 ?_
  simp only [go_sem, Nat.reduceAdd, Nat.reduceMul, Nat.reduceSub, Nat.reduceBEq, Nat.reduceLT, Nat.reduceLeDiff, reduceIte, reduceCtorEq, Int.reduceToNat, Int.reduceLE, Int.reduceLT, Int.reduceNe, Int.reduceMul, Int.reduceAdd, Int.reduceSub, Int.reduceDiv, Int.reduceMod, Int.reduceEq, Int.reduceGE, Int.reduceGT, Int.reduceNeg, Int.reduceBEq, Int.reduceBNe, Nat.reduceEqDiff, T0, t35]
  refine pcall1 (cutPrefix_pc _ _) rfl (N := 96) Tryz.ntmps96 rfl (go (N := 96) Tryz.ntmps96 300 ?_)
  rw [pre_head, has_head]
  simp only [go_sem, Nat.reduceAdd, Nat.reduceMul, Nat.reduceSub, Nat.reduceBEq, Nat.reduceLT, Nat.reduceLeDiff, reduceIte, reduceCtorEq, Int.reduceToNat, Int.reduceLE, Int.reduceLT, Int.reduceNe, Int.reduceMul, Int.reduceAdd, Int.reduceSub, Int.reduceDiv, Int.reduceMod, Int.reduceEq, Int.reduceGE, Int.reduceGT, Int.reduceNeg, Int.reduceBEq, Int.reduceBNe, Nat.reduceEqDiff]
  refine pcallH1 hg (readHeading_pch hS) rfl (N := 96) Tryz.ntmps96 rfl (go (N := 96) Tryz.ntmps96 300 ?_)
  simp only [go_sem, Nat.reduceAdd, Nat.reduceMul, Nat.reduceSub, Nat.reduceBEq, Nat.reduceLT, Nat.reduceLeDiff, reduceIte, reduceCtorEq, Int.reduceToNat, Int.reduceLE, Int.reduceLT, Int.reduceNe, Int.reduceMul, Int.reduceAdd, Int.reduceSub, Int.reduceDiv, Int.reduceMod, Int.reduceEq, Int.reduceGE, Int.reduceGT, Int.reduceNeg, Int.reduceBEq, Int.reduceBNe, Nat.reduceEqDiff, sceneE]
  refine adraw [] mixed (by decide) (N := 96) Tryz.ntmps96 (by decide) 100 ?_
  simp only [go_sem, Nat.reduceAdd, Nat.reduceMul, Nat.reduceSub, Nat.reduceBEq, Nat.reduceLT, Nat.reduceLeDiff, reduceIte, reduceCtorEq, Int.reduceToNat, Int.reduceLE, Int.reduceLT, Int.reduceNe, Int.reduceMul, Int.reduceAdd, Int.reduceSub, Int.reduceDiv, Int.reduceMod, Int.reduceEq, Int.reduceGE, Int.reduceGT, Int.reduceNeg, Int.reduceBEq, Int.reduceBNe, Nat.reduceEqDiff]
  refine go (N := 96) Tryz.ntmps96 300 ?_
  simp only [go_sem, Nat.reduceAdd, Nat.reduceMul, Nat.reduceSub, Nat.reduceBEq, Nat.reduceLT, Nat.reduceLeDiff, reduceIte, reduceCtorEq, Int.reduceToNat, Int.reduceLE, Int.reduceLT, Int.reduceNe, Int.reduceMul, Int.reduceAdd, Int.reduceSub, Int.reduceDiv, Int.reduceMod, Int.reduceEq, Int.reduceGE, Int.reduceGT, Int.reduceNeg, Int.reduceBEq, Int.reduceBNe, Nat.reduceEqDiff]
  exact aret [4] rfl ⟨rfl, rfl⟩

theorem line2_ct {S : Std} (hS : LibOk S) : CtH Tryz.prog S 63 [.ptr 1 1 0 0, .str [35, 32, 73, 78, 84, 46, 32, 72, 65, 76, 76, 32, 45, 32, 68, 65, 89]] (T0 1) (fun r s => r = .bool true ∧ s = T1 3) := by
  refine cth_intro Tryz.func63 rfl Tryz.ntmps63 hB63 (by simp) fun h ρ w hg => go (N := 56) Tryz.ntmps63 300 ?_
  simp only [go_sem, Nat.reduceAdd, Nat.reduceMul, Nat.reduceSub, Nat.reduceBEq, Nat.reduceLT, Nat.reduceLeDiff, reduceIte, reduceCtorEq, Int.reduceToNat, Int.reduceLE, Int.reduceLT, Int.reduceNe, Int.reduceMul, Int.reduceAdd, Int.reduceSub, Int.reduceDiv, Int.reduceMod, Int.reduceEq, Int.reduceGE, Int.reduceGT, Int.reduceNeg, Int.reduceBEq, Int.reduceBNe, Nat.reduceEqDiff, T0]
  refine acallH hg (begins1_ct hS) (N := 56) Tryz.ntmps63 rfl ?_
  rintro _ _ ⟨rfl, rfl⟩
  refine go (N := 56) Tryz.ntmps63 300 ?_
  simp only [go_sem, Nat.reduceAdd, Nat.reduceMul, Nat.reduceSub, Nat.reduceBEq, Nat.reduceLT, Nat.reduceLeDiff, reduceIte, reduceCtorEq, Int.reduceToNat, Int.reduceLE, Int.reduceLT, Int.reduceNe, Int.reduceMul, Int.reduceAdd, Int.reduceSub, Int.reduceDiv, Int.reduceMod, Int.reduceEq, Int.reduceGE, Int.reduceGT, Int.reduceNeg, Int.reduceBEq, Int.reduceBNe, Nat.reduceEqDiff]
  exact aret [4] rfl ⟨rfl, rfl⟩

theorem line3_ct : Ct Tryz.prog 63 [.ptr 1 1 0 0, .str []] (T1 3) (fun r s => r = .bool true ∧ s = T1 2) := by
  refine ct_intro Tryz.func63 rfl Tryz.ntmps63 hB63 (by simp) fun h ρ w => go (N := 56) Tryz.ntmps63 300 ?_
  simp only [go_sem, Nat.reduceAdd, Nat.reduceMul, Nat.reduceSub, Nat.reduceBEq, Nat.reduceLT, Nat.reduceLeDiff, reduceIte, reduceCtorEq, Int.reduceToNat, Int.reduceLE, Int.reduceLT, Int.reduceNe, Int.reduceMul, Int.reduceAdd, Int.reduceSub, Int.reduceDiv, Int.reduceMod, Int.reduceEq, Int.reduceGE, Int.reduceGT, Int.reduceNeg, Int.reduceBEq, Int.reduceBNe, Nat.reduceEqDiff, T1]
  exact aret [4] rfl ⟨rfl, rfl⟩

/-- .. and a paragraph -/
def T2 : List Blk := [.arr 2 [.agg [.str [], .raw (.slice none 0 0)]], .arr 3 [.agg [.str [84], .sl 3 0 1 1, .int .i64 3]],
  .arr 5 [.agg [.str [], .int .i64 1, .str [72, 65, 76, 76], .int .i64 1, .raw (.slice none 0 0)]], .arr 5 [.agg [.str [], .int .i64 1, .str [72, 65, 76, 76], .int .i64 1, .sl 5 0 1 1]],
  .arr 2 [.agg [.int .i64 1, .str [82, 97, 105, 110, 46]]], .arr 2 [.agg [.int .i64 1, .str [82, 97, 105, 110, 46]]]]

theorem add_ct : Ct Tryz.prog 138 [.ptr 1 1 0 0, .int .i64 1, .str [82, 97, 105, 110, 46]] (T1 2) (fun r s => s = T2) := by
  refine ct_intro Tryz.func138 rfl Tryz.ntmps138 hB138 (by simp) fun h ρ w => go (N := 48) Tryz.ntmps138 300 ?_
  simp only [go_sem, Nat.reduceAdd, Nat.reduceMul, Nat.reduceSub, Nat.reduceBEq, Nat.reduceLT, Nat.reduceLeDiff, reduceIte, reduceCtorEq, Int.reduceToNat, Int.reduceLE, Int.reduceLT, Int.reduceNe, Int.reduceMul, Int.reduceAdd, Int.reduceSub, Int.reduceDiv, Int.reduceMod, Int.reduceEq, Int.reduceGE, Int.reduceGT, Int.reduceNeg, Int.reduceBEq, Int.reduceBNe, Nat.reduceEqDiff, T1]
  refine adraw [] mixed (by decide) (N := 48) Tryz.ntmps138 (by decide) 100 ?_
  simp only [go_sem, Nat.reduceAdd, Nat.reduceMul, Nat.reduceSub, Nat.reduceBEq, Nat.reduceLT, Nat.reduceLeDiff, reduceIte, reduceCtorEq, Int.reduceToNat, Int.reduceLE, Int.reduceLT, Int.reduceNe, Int.reduceMul, Int.reduceAdd, Int.reduceSub, Int.reduceDiv, Int.reduceMod, Int.reduceEq, Int.reduceGE, Int.reduceGT, Int.reduceNeg, Int.reduceBEq, Int.reduceBNe, Nat.reduceEqDiff]
  refine go (N := 48) Tryz.ntmps138 300 ?_
  simp only [go_sem, Nat.reduceAdd, Nat.reduceMul, Nat.reduceSub, Nat.reduceBEq, Nat.reduceLT, Nat.reduceLeDiff, reduceIte, reduceCtorEq, Int.reduceToNat, Int.reduceLE, Int.reduceLT, Int.reduceNe, Int.reduceMul, Int.reduceAdd, Int.reduceSub, Int.reduceDiv, Int.reduceMod, Int.reduceEq, Int.reduceGE, Int.reduceGT, Int.reduceNeg, Int.reduceBEq, Int.reduceBNe, Nat.reduceEqDiff]
  refine ⟨.inl trivial, aret [] rfl rfl⟩

theorem begins2_ct {S : Std} (hS : LibOk S) : CtH Tryz.prog S 96 [.ptr 1 1 0 0, .str [82, 97, 105, 110, 46]] (T1 2) (fun r s => r = .bool true ∧ s = T2) := by
  refine cth_intro Tryz.func96 rfl Tryz.ntmps96 hB96 (by simp) fun h ρ w hg => go (N := 96) Tryz.ntmps96 300 ?_
  simp only [go_sem, Nat.reduceAdd, Nat.reduceMul, Nat.reduceSub, Nat.reduceBEq, Nat.reduceLT, Nat.reduceLeDiff, reduceIte, reduceCtorEq, Int.reduceToNat, Int.reduceLE, Int.reduceLT, Int.reduceNe, Int.reduceMul, Int.reduceAdd, Int.reduceSub, Int.reduceDiv, Int.reduceMod, Int.reduceEq, Int.reduceGE, Int.reduceGT, Int.reduceNeg, Int.reduceBEq, Int.reduceBNe, Nat.reduceEqDiff, T1, t82]
  refine acall add_ct (N := 96) Tryz.ntmps96 rfl ?_
  rintro r _ rfl
  refine go (N := 96) Tryz.ntmps96 300 ?_
  simp only [go_sem, Nat.reduceAdd, Nat.reduceMul, Nat.reduceSub, Nat.reduceBEq, Nat.reduceLT, Nat.reduceLeDiff, reduceIte, reduceCtorEq, Int.reduceToNat, Int.reduceLE, Int.reduceLT, Int.reduceNe, Int.reduceMul, Int.reduceAdd, Int.reduceSub, Int.reduceDiv, Int.reduceMod, Int.reduceEq, Int.reduceGE, Int.reduceGT, Int.reduceNeg, Int.reduceBEq, Int.reduceBNe, Nat.reduceEqDiff]
  exact aret [4] rfl ⟨rfl, rfl⟩

theorem line4_ct {S : Std} (hS : LibOk S) : CtH Tryz.prog S 63 [.ptr 1 1 0 0, .str [82, 97, 105, 110, 46]] (T1 2) (fun r s => r = .bool true ∧ s = T2) := by
  refine cth_intro Tryz.func63 rfl Tryz.ntmps63 hB63 (by simp) fun h ρ w hg => go (N := 56) Tryz.ntmps63 300 ?_
  simp only [go_sem, Nat.reduceAdd, Nat.reduceMul, Nat.reduceSub, Nat.reduceBEq, Nat.reduceLT, Nat.reduceLeDiff, reduceIte, reduceCtorEq, Int.reduceToNat, Int.reduceLE, Int.reduceLT, Int.reduceNe, Int.reduceMul, Int.reduceAdd, Int.reduceSub, Int.reduceDiv, Int.reduceMod, Int.reduceEq, Int.reduceGE, Int.reduceGT, Int.reduceNeg, Int.reduceBEq, Int.reduceBNe, Nat.reduceEqDiff, T1]
  refine acallH hg (begins2_ct hS) (N := 56) Tryz.ntmps63 rfl ?_
  rintro _ _ ⟨rfl, rfl⟩
  refine go (N := 56) Tryz.ntmps63 300 ?_
  simp only [go_sem, Nat.reduceAdd, Nat.reduceMul, Nat.reduceSub, Nat.reduceBEq, Nat.reduceLT, Nat.reduceLeDiff, reduceIte, reduceCtorEq, Int.reduceToNat, Int.reduceLE, Int.reduceLT, Int.reduceNe, Int.reduceMul, Int.reduceAdd, Int.reduceSub, Int.reduceDiv, Int.reduceMod, Int.reduceEq, Int.reduceGE, Int.reduceGT, Int.reduceNeg, Int.reduceBEq, Int.reduceBNe, Nat.reduceEqDiff]
  exact aret [4] rfl ⟨rfl, rfl⟩
end Go.Proofs.YtpjbbpilgfihbaaGreatDoor
/- Read, at the constant; the law's own script is read. Own work of this seat. -/
set_option maxRecDepth 100000
set_option linter.unusedSimpArgs false
set_option linter.unusedVariables false
namespace Go.Proofs.YtpjbbpilgfihbaaGreatDoor
open Go Go.Av Go.RowKit
attribute [local go_sem ↓] br_true br_false dbr_true dbr_false dbri_true dbri_false dbrg_true dbrg_false
attribute [local go_sem] run cont br dbr dx dxc dgrd dyld dres dcall calm fieldPlace? allHas step1 opN grdN resN condN exitN stopN exitIt dOk xop xbin xint xarith xstr xbool xpick xnot xneg xextract xpart xpartOk xindex xfieldF fieldD xnew xbox xalloc xfieldAddr xptrAddIf xindexAddr xloadC xload putCells reElem xstoreB xstore xconv xtext xlen xlen2 xcall xfill xbuild cut rep xbuildSlice xbuildSliceD isRow elemD isU8 ev evs evp Go.Av.put Go.Av.get ofConst yldD yldV notBool_undef args0 cellsOf cond_true cond_false decide_true decide_false decide_eq_true_eq decide_eq_false_iff_not List.getElem?_cons_zero List.getElem?_cons_succ List.getElem?_nil List.getD_cons_zero List.getD_cons_succ List.getD_nil List.set_cons_zero List.set_cons_succ List.length_cons List.length_nil List.cons_append List.nil_append List.append_nil List.all_cons List.all_nil List.map_cons List.map_nil List.take_succ_cons List.take_zero List.drop_succ_cons List.drop_zero Bool.and_true Bool.true_and Bool.and_self Bool.and_false Bool.false_and one Go.Av.frozen beq_self_eq_true true_and and_true forall_const false_implies implies_true and_self Option.map_some Option.map_none Nat.zero_add Nat.add_zero Nat.zero_mul Nat.mul_one Nat.one_mul Int.toNat_zero ne_eq not_false_eq_true not_true_eq_false Bool.true_eq_false Bool.false_eq_true List.toList_toArray inr Go.Av.byteOf isByte decide_eq_decide Bool.not_true Bool.not_false Bool.not_eq_true' Bool.or_true Bool.true_or Bool.or_false Bool.false_or ge_iff_le gt_iff_lt and_assoc Bool.decide_eq_true beq_iff_eq beq_eq_false_iff_ne bne_iff_ne bne_self_eq_false if_true if_false Bool.and_eq_true Bool.or_eq_true Bool.and_eq_false_imp Bool.or_eq_false_iff Bool.not_eq_false' has Option.isSome_some Option.isSome_none Int.toNat_natCast Int.cast_ofNat_Int List.length_append xapp2 xapp xappS xappD xappB notInt srcOf srcB byteAV splice' xcut xcutS xcutF xcutB xcutN xcut0 cutL loOf hiOf evo xmake zelem xmax xcopy2 xcopyS xcopyB xnil xcut3 ixOf xclear2 xclearB List.getElem?_toArray xbin2 xnileq xempty xmkmap xmput xmputB xmputF isKey keyEq mfind xbin3 xeqs xeqop eqFs bothB leafEq xlook xlookB xlookF xbytes beq_c_n beq_n_c bne_c_n bne_n_c one_nil dxi dxic dbri rix dck reader blind opOk refOk Go.Op.operands Go.Call.operands List.contains_cons List.contains_nil dxg dxgc dbrg pck putD List.lookup_cons List.lookup_nil ts2 tb2 zl2 za2 Tryz.underlying2 ts3 tb3 zl3 za3 Tryz.underlying3 ts4 tb4 zl4 za4 Tryz.underlying4 ts5 tb5 zl5 za5 Tryz.underlying5 ts6 tb6 zl6 za6 Tryz.underlying6 ts7 tb7 za7 Tryz.underlying7 ts8 tb8 za8 Tryz.underlying8 ts9 tb9 zl9 za9 Tryz.underlying9 ts10 tb10 zl10 za10 Tryz.underlying10 ts11 tb11 zl11 za11 Tryz.underlying11 ts12 tb12 zl12 za12 Tryz.underlying12 ts13 tb13 za13 Tryz.underlying13 ts14 tb14 za14 Tryz.underlying14 ts18 tb18 za18 Tryz.underlying18 ts19 tb19 za19 Tryz.underlying19 ts21 tb21 zl21 za21 Tryz.underlying21 ts22 tb22 zl22 za22 Tryz.underlying22 ts24 tb24 za24 Tryz.underlying24 ts25 tb25 za25 Tryz.underlying25 ts27 tb27 zl27 za27 Tryz.underlying27 ts35 tb35 zl35 za35 Tryz.underlying35 ts36 tb36 za36 Tryz.underlying36 ts37 tb37 za37 Tryz.underlying37 ts39 tb39 zl39 za39 Tryz.underlying39 ts41 tb41 za41 Tryz.underlying41 ts42 tb42 za42 Tryz.underlying42 ts63 tb63 zl63 za63 Tryz.underlying63 ts64 tb64 zl64 za64 Tryz.underlying64 ts65 tb65 za65 Tryz.underlying65 ts66 tb66 za66 Tryz.underlying66 ts67 tb67 zl67 za67 Tryz.underlying67 ts69 tb69 za69 Tryz.underlying69 ts70 tb70 za70 Tryz.underlying70 ts73 tb73 za73 Tryz.underlying73 ts74 tb74 za74 Tryz.underlying74 ts75 tb75 zl75 za75 Tryz.underlying75 ts82 tb82 zl82 za82 Tryz.underlying82 ts96 tb96 za96 Tryz.underlying96 ts97 tb97 za97 Tryz.underlying97 ts103 tb103 za103 Tryz.underlying103 ts104 tb104 za104 Tryz.underlying104 ts109 tb109 zl109 za109 Tryz.underlying109 ts116 tb116 zl116 za116 Tryz.underlying116 ts117 tb117 za117 Tryz.underlying117 ts118 tb118 za118 Tryz.underlying118 ts120 tb120 zl120 za120 Tryz.underlying120 ts124 tb124 zl124 za124 Tryz.underlying124 ts126 tb126 za126 Tryz.underlying126 ts128 tb128 zl128 za128 Tryz.underlying128 ts130 tb130 za130 Tryz.underlying130 ts131 tb131 za131 Tryz.underlying131 ts153 tb153 zl153 za153 Tryz.underlying153 ts167 tb167 zl167 za167 Tryz.underlying167 ts171 tb171 zl171 za171 Tryz.underlying171 ts177 tb177 zl177 za177 Tryz.underlying177 ts183 tb183 zl183 za183 Tryz.underlying183 ts189 tb189 zl189 za189 Tryz.underlying189 ts191 tb191 zl191 za191 Tryz.underlying191 ts195 tb195 za195 Tryz.underlying195 ts196 tb196 za196 Tryz.underlying196 ts198 tb198 zl198 za198 Tryz.underlying198 ts203 tb203 Tryz.underlying203 ts209 tb209 za209 Tryz.underlying209 ts210 tb210 za210 Tryz.underlying210 ts211 tb211 Tryz.underlying211 ts216 tb216 za216 Tryz.underlying216 ts217 tb217 za217 Tryz.underlying217 ts220 tb220 Tryz.underlying220 ts225 tb225 Tryz.underlying225 ts226 tb226 Tryz.underlying226 ts227 tb227 za227 Tryz.underlying227 ts228 tb228 za228 Tryz.underlying228 ts232 tb232 zl232 za232 Tryz.underlying232 ts233 tb233 zl233 za233 Tryz.underlying233 ts235 tb235 zl235 za235 Tryz.underlying235 ts236 tb236 zl236 za236 Tryz.underlying236 ts237 tb237 za237 Tryz.underlying237 ts238 tb238 za238 Tryz.underlying238


theorem split_text : splitL [116, 105, 116, 108, 101, 58, 32, 84, 10, 10, 35, 32, 73, 78, 84, 46, 32, 72, 65, 76, 76, 32, 45, 32, 68, 65, 89, 10, 10, 82, 97, 105, 110, 46, 10] [10] =
    [[116, 105, 116, 108, 101, 58, 32, 84], [], [35, 32, 73, 78, 84, 46, 32, 72, 65, 76, 76, 32, 45, 32, 68, 65, 89], [], [82, 97, 105, 110, 46], []] := by decide
theorem pre_title : Lib.trimPrefix [116, 105, 116, 108, 101, 58, 32, 84] [116, 105, 116, 108, 101, 58, 32] = [84] := by decide
theorem has_title : Lib.hasPrefix [116, 105, 116, 108, 101, 58, 32, 84] [116, 105, 116, 108, 101, 58, 32] = true := by decide

theorem read_pch {S : Std} (hS : LibOk S) : PcH Tryz.prog S 27 [.str [116, 105, 116, 108, 101, 58, 32, 84, 10, 10, 35, 32, 73, 78, 84, 46, 32, 72, 65, 76, 76, 32, 45, 32, 68, 65, 89, 10, 10, 82, 97, 105, 110, 46, 10]] (· = .tup [scriptA, .int .i64 0, .int .i64 0]) := by
  refine pch_intro (cth_intro Tryz.func27 rfl Tryz.ntmps27 hB27 (by simp) fun h ρ w hg => go (N := 101) Tryz.ntmps27 300 ?_)
  simp only [go_sem, Nat.reduceAdd, Nat.reduceMul, Nat.reduceSub, Nat.reduceBEq, Nat.reduceLT, Nat.reduceLeDiff, reduceIte, reduceCtorEq, Int.reduceToNat, Int.reduceLE, Int.reduceLT, Int.reduceNe, Int.reduceMul, Int.reduceAdd, Int.reduceSub, Int.reduceDiv, Int.reduceMod, Int.reduceEq, Int.reduceGE, Int.reduceGT, Int.reduceNeg, Int.reduceBEq, Int.reduceBNe, Nat.reduceEqDiff]
  refine pcallH1 hg (split_pch hS _ [10] (by decide) (by decide)) rfl (N := 101) Tryz.ntmps27 rfl (go (N := 101) Tryz.ntmps27 300 ?_)
  rw [split_text]
  simp only [go_sem, Nat.reduceAdd, Nat.reduceMul, Nat.reduceSub, Nat.reduceBEq, Nat.reduceLT, Nat.reduceLeDiff, reduceIte, reduceCtorEq, Int.reduceToNat, Int.reduceLE, Int.reduceLT, Int.reduceNe, Int.reduceMul, Int.reduceAdd, Int.reduceSub, Int.reduceDiv, Int.reduceMod, Int.reduceEq, Int.reduceGE, Int.reduceGT, Int.reduceNeg, Int.reduceBEq, Int.reduceBNe, Nat.reduceEqDiff]
  refine aenter (around (go (N := 101) Tryz.ntmps27 300 ?_))
  simp only [go_sem, Nat.reduceAdd, Nat.reduceMul, Nat.reduceSub, Nat.reduceBEq, Nat.reduceLT, Nat.reduceLeDiff, reduceIte, reduceCtorEq, Int.reduceToNat, Int.reduceLE, Int.reduceLT, Int.reduceNe, Int.reduceMul, Int.reduceAdd, Int.reduceSub, Int.reduceDiv, Int.reduceMod, Int.reduceEq, Int.reduceGE, Int.reduceGT, Int.reduceNeg, Int.reduceBEq, Int.reduceBNe, Nat.reduceEqDiff]
  refine pcall1 (cutPrefix_pc _ _) rfl (N := 101) Tryz.ntmps27 rfl (go (N := 101) Tryz.ntmps27 300 ?_)
  rw [pre_title, has_title]
  simp only [go_sem, Nat.reduceAdd, Nat.reduceMul, Nat.reduceSub, Nat.reduceBEq, Nat.reduceLT, Nat.reduceLeDiff, reduceIte, reduceCtorEq, Int.reduceToNat, Int.reduceLE, Int.reduceLT, Int.reduceNe, Int.reduceMul, Int.reduceAdd, Int.reduceSub, Int.reduceDiv, Int.reduceMod, Int.reduceEq, Int.reduceGE, Int.reduceGT, Int.reduceNeg, Int.reduceBEq, Int.reduceBNe, Nat.reduceEqDiff]
  refine aagain (around (go (N := 101) Tryz.ntmps27 300 ?_))
  simp only [go_sem, Nat.reduceAdd, Nat.reduceMul, Nat.reduceSub, Nat.reduceBEq, Nat.reduceLT, Nat.reduceLeDiff, reduceIte, reduceCtorEq, Int.reduceToNat, Int.reduceLE, Int.reduceLT, Int.reduceNe, Int.reduceMul, Int.reduceAdd, Int.reduceSub, Int.reduceDiv, Int.reduceMod, Int.reduceEq, Int.reduceGE, Int.reduceGT, Int.reduceNeg, Int.reduceBEq, Int.reduceBNe, Nat.reduceEqDiff]
  refine acall line1_ct (N := 101) Tryz.ntmps27 rfl ?_
  rintro _ _ ⟨rfl, rfl⟩
  refine go (N := 101) Tryz.ntmps27 300 ?_
  simp only [go_sem, Nat.reduceAdd, Nat.reduceMul, Nat.reduceSub, Nat.reduceBEq, Nat.reduceLT, Nat.reduceLeDiff, reduceIte, reduceCtorEq, Int.reduceToNat, Int.reduceLE, Int.reduceLT, Int.reduceNe, Int.reduceMul, Int.reduceAdd, Int.reduceSub, Int.reduceDiv, Int.reduceMod, Int.reduceEq, Int.reduceGE, Int.reduceGT, Int.reduceNeg, Int.reduceBEq, Int.reduceBNe, Nat.reduceEqDiff]
  refine aagain (around (go (N := 101) Tryz.ntmps27 300 ?_))
  simp only [go_sem, Nat.reduceAdd, Nat.reduceMul, Nat.reduceSub, Nat.reduceBEq, Nat.reduceLT, Nat.reduceLeDiff, reduceIte, reduceCtorEq, Int.reduceToNat, Int.reduceLE, Int.reduceLT, Int.reduceNe, Int.reduceMul, Int.reduceAdd, Int.reduceSub, Int.reduceDiv, Int.reduceMod, Int.reduceEq, Int.reduceGE, Int.reduceGT, Int.reduceNeg, Int.reduceBEq, Int.reduceBNe, Nat.reduceEqDiff]
  refine acallH hg (line2_ct hS) (N := 101) Tryz.ntmps27 rfl ?_
  rintro _ _ ⟨rfl, rfl⟩
  refine go (N := 101) Tryz.ntmps27 300 ?_
  simp only [go_sem, Nat.reduceAdd, Nat.reduceMul, Nat.reduceSub, Nat.reduceBEq, Nat.reduceLT, Nat.reduceLeDiff, reduceIte, reduceCtorEq, Int.reduceToNat, Int.reduceLE, Int.reduceLT, Int.reduceNe, Int.reduceMul, Int.reduceAdd, Int.reduceSub, Int.reduceDiv, Int.reduceMod, Int.reduceEq, Int.reduceGE, Int.reduceGT, Int.reduceNeg, Int.reduceBEq, Int.reduceBNe, Nat.reduceEqDiff]
  refine aagain (around (go (N := 101) Tryz.ntmps27 300 ?_))
  simp only [go_sem, Nat.reduceAdd, Nat.reduceMul, Nat.reduceSub, Nat.reduceBEq, Nat.reduceLT, Nat.reduceLeDiff, reduceIte, reduceCtorEq, Int.reduceToNat, Int.reduceLE, Int.reduceLT, Int.reduceNe, Int.reduceMul, Int.reduceAdd, Int.reduceSub, Int.reduceDiv, Int.reduceMod, Int.reduceEq, Int.reduceGE, Int.reduceGT, Int.reduceNeg, Int.reduceBEq, Int.reduceBNe, Nat.reduceEqDiff]
  refine acall line3_ct (N := 101) Tryz.ntmps27 rfl ?_
  rintro _ _ ⟨rfl, rfl⟩
  refine go (N := 101) Tryz.ntmps27 300 ?_
  simp only [go_sem, Nat.reduceAdd, Nat.reduceMul, Nat.reduceSub, Nat.reduceBEq, Nat.reduceLT, Nat.reduceLeDiff, reduceIte, reduceCtorEq, Int.reduceToNat, Int.reduceLE, Int.reduceLT, Int.reduceNe, Int.reduceMul, Int.reduceAdd, Int.reduceSub, Int.reduceDiv, Int.reduceMod, Int.reduceEq, Int.reduceGE, Int.reduceGT, Int.reduceNeg, Int.reduceBEq, Int.reduceBNe, Nat.reduceEqDiff]
  refine aagain (around (go (N := 101) Tryz.ntmps27 300 ?_))
  simp only [go_sem, Nat.reduceAdd, Nat.reduceMul, Nat.reduceSub, Nat.reduceBEq, Nat.reduceLT, Nat.reduceLeDiff, reduceIte, reduceCtorEq, Int.reduceToNat, Int.reduceLE, Int.reduceLT, Int.reduceNe, Int.reduceMul, Int.reduceAdd, Int.reduceSub, Int.reduceDiv, Int.reduceMod, Int.reduceEq, Int.reduceGE, Int.reduceGT, Int.reduceNeg, Int.reduceBEq, Int.reduceBNe, Nat.reduceEqDiff]
  refine acallH hg (line4_ct hS) (N := 101) Tryz.ntmps27 rfl ?_
  rintro _ _ ⟨rfl, rfl⟩
  refine go (N := 101) Tryz.ntmps27 300 ?_
  simp only [go_sem, Nat.reduceAdd, Nat.reduceMul, Nat.reduceSub, Nat.reduceBEq, Nat.reduceLT, Nat.reduceLeDiff, reduceIte, reduceCtorEq, Int.reduceToNat, Int.reduceLE, Int.reduceLT, Int.reduceNe, Int.reduceMul, Int.reduceAdd, Int.reduceSub, Int.reduceDiv, Int.reduceMod, Int.reduceEq, Int.reduceGE, Int.reduceGT, Int.reduceNeg, Int.reduceBEq, Int.reduceBNe, Nat.reduceEqDiff]
  refine AWp.shift (Shift.weak (e' := [(27, .int .i64 5), (26, .int .i64 5), (25, .fz 1 [.str [116, 105, 116, 108, 101, 58, 32, 84], .str [], .str [35, 32, 73, 78, 84, 46, 32, 72, 65, 76, 76, 32, 45, 32, 68, 65, 89], .str [], .str [82, 97, 105, 110, 46]]),
    (7, .ptr 1 1 0 0), (6, .int .i64 5), (5, .fz 1 [.str [116, 105, 116, 108, 101, 58, 32, 84], .str [], .str [35, 32, 73, 78, 84, 46, 32, 72, 65, 76, 76, 32, 45, 32, 68, 65, 89], .str [], .str [82, 97, 105, 110, 46], .str []]),
    (2, .ptr 0 1 0 0), (0, .str [116, 105, 116, 108, 101, 58, 32, 84, 10, 10, 35, 32, 73, 78, 84, 46, 32, 72, 65, 76, 76, 32, 45, 32, 68, 65, 89, 10, 10, 82, 97, 105, 110, 46, 10])]) ?_) ?_
  · simp only [wk, go_sem, Nat.reduceAdd, Nat.reduceMul, Nat.reduceSub, Nat.reduceBEq, Nat.reduceLT, Nat.reduceLeDiff, reduceIte, reduceCtorEq, Int.reduceToNat, Int.reduceLE, Int.reduceLT, Int.reduceNe, Int.reduceMul, Int.reduceAdd, Int.reduceSub, Int.reduceDiv, Int.reduceMod, Int.reduceEq, Int.reduceGE, Int.reduceGT, Int.reduceNeg, Int.reduceBEq, Int.reduceBNe, Nat.reduceEqDiff]
  refine AWp.shift (Shift.frz 5 rfl rfl) ?_
  refine AWp.shift (Shift.frz 3 rfl rfl) ?_
  simp only [T2, frzE, frzB, frz, frz1, Nat.reduceBEq, Bool.cond_true, Bool.cond_false, go_sem, Nat.reduceAdd, Nat.reduceMul, Nat.reduceSub, Nat.reduceBEq, Nat.reduceLT, Nat.reduceLeDiff, reduceIte, reduceCtorEq, Int.reduceToNat, Int.reduceLE, Int.reduceLT, Int.reduceNe, Int.reduceMul, Int.reduceAdd, Int.reduceSub, Int.reduceDiv, Int.reduceMod, Int.reduceEq, Int.reduceGE, Int.reduceGT, Int.reduceNeg, Int.reduceBEq, Int.reduceBNe, Nat.reduceEqDiff]
  refine aagain (around (go (N := 101) Tryz.ntmps27 300 ?_))
  simp only [go_sem, Nat.reduceAdd, Nat.reduceMul, Nat.reduceSub, Nat.reduceBEq, Nat.reduceLT, Nat.reduceLeDiff, reduceIte, reduceCtorEq, Int.reduceToNat, Int.reduceLE, Int.reduceLT, Int.reduceNe, Int.reduceMul, Int.reduceAdd, Int.reduceSub, Int.reduceDiv, Int.reduceMod, Int.reduceEq, Int.reduceGE, Int.reduceGT, Int.reduceNeg, Int.reduceBEq, Int.reduceBNe, Nat.reduceEqDiff]
  refine pcallH1 hg (checkT_pch hS) rfl (N := 101) Tryz.ntmps27 rfl (go (N := 101) Tryz.ntmps27 300 ?_)
  simp only [go_sem, Nat.reduceAdd, Nat.reduceMul, Nat.reduceSub, Nat.reduceBEq, Nat.reduceLT, Nat.reduceLeDiff, reduceIte, reduceCtorEq, Int.reduceToNat, Int.reduceLE, Int.reduceLT, Int.reduceNe, Int.reduceMul, Int.reduceAdd, Int.reduceSub, Int.reduceDiv, Int.reduceMod, Int.reduceEq, Int.reduceGE, Int.reduceGT, Int.reduceNeg, Int.reduceBEq, Int.reduceBNe, Nat.reduceEqDiff]
  refine pcallH1 hg (written_pch hS) rfl (N := 101) Tryz.ntmps27 rfl (go (N := 101) Tryz.ntmps27 300 ?_)
  simp only [go_sem, Nat.reduceAdd, Nat.reduceMul, Nat.reduceSub, Nat.reduceBEq, Nat.reduceLT, Nat.reduceLeDiff, reduceIte, reduceCtorEq, Int.reduceToNat, Int.reduceLE, Int.reduceLT, Int.reduceNe, Int.reduceMul, Int.reduceAdd, Int.reduceSub, Int.reduceDiv, Int.reduceMod, Int.reduceEq, Int.reduceGE, Int.reduceGT, Int.reduceNeg, Int.reduceBEq, Int.reduceBNe, Nat.reduceEqDiff]
  refine aretc [.cell 2 37, .tmp 3, .tmp 4] rfl [scriptA, .int .i64 0, .int .i64 0] ⟨?_, rfl, rfl, trivial⟩ ⟨rfl, rfl⟩
  simp only [go_sem, Nat.reduceAdd, Nat.reduceMul, Nat.reduceSub, Nat.reduceBEq, Nat.reduceLT, Nat.reduceLeDiff, reduceIte, reduceCtorEq, Int.reduceToNat, Int.reduceLE, Int.reduceLT, Int.reduceNe, Int.reduceMul, Int.reduceAdd, Int.reduceSub, Int.reduceDiv, Int.reduceMod, Int.reduceEq, Int.reduceGE, Int.reduceGT, Int.reduceNeg, Int.reduceBEq, Int.reduceBNe, Nat.reduceEqDiff, sideIs, scriptA, sceneA]

theorem scripts_pch {S : Std} (hS : LibOk S) : PcH Tryz.prog S 9 [] (· = .bool true) := by
  refine pch_intro (cth_intro Tryz.func9 rfl Tryz.ntmps9 hB9 (by simp) fun h ρ w hg => go (N := 17) Tryz.ntmps9 300 ?_)
  simp only [go_sem, Nat.reduceAdd, Nat.reduceMul, Nat.reduceSub, Nat.reduceBEq, Nat.reduceLT, Nat.reduceLeDiff, reduceIte, reduceCtorEq, Int.reduceToNat, Int.reduceLE, Int.reduceLT, Int.reduceNe, Int.reduceMul, Int.reduceAdd, Int.reduceSub, Int.reduceDiv, Int.reduceMod, Int.reduceEq, Int.reduceGE, Int.reduceGT, Int.reduceNeg, Int.reduceBEq, Int.reduceBNe, Nat.reduceEqDiff]
  refine pcallH1 hg (read_pch hS) rfl (N := 17) Tryz.ntmps9 rfl (go (N := 17) Tryz.ntmps9 300 ?_)
  simp only [go_sem, Nat.reduceAdd, Nat.reduceMul, Nat.reduceSub, Nat.reduceBEq, Nat.reduceLT, Nat.reduceLeDiff, reduceIte, reduceCtorEq, Int.reduceToNat, Int.reduceLE, Int.reduceLT, Int.reduceNe, Int.reduceMul, Int.reduceAdd, Int.reduceSub, Int.reduceDiv, Int.reduceMod, Int.reduceEq, Int.reduceGE, Int.reduceGT, Int.reduceNeg, Int.reduceBEq, Int.reduceBNe, Nat.reduceEqDiff, scriptA]
  exact aret [0] rfl ⟨rfl, rfl⟩
end Go.Proofs.YtpjbbpilgfihbaaGreatDoor
/- Two scripts that are the same. Own work of this seat. -/
set_option maxRecDepth 100000
set_option linter.unusedSimpArgs false
set_option linter.unusedVariables false
namespace Go.Proofs.YtpjbbpilgfihbaaGreatDoor
open Go Go.Av Go.RowKit
attribute [local go_sem ↓] br_true br_false dbr_true dbr_false dbri_true dbri_false dbrg_true dbrg_false
attribute [local go_sem] run cont br dbr dx dxc dgrd dyld dres dcall calm fieldPlace? allHas step1 opN grdN resN condN exitN stopN exitIt dOk xop xbin xint xarith xstr xbool xpick xnot xneg xextract xpart xpartOk xindex xfieldF fieldD xnew xbox xalloc xfieldAddr xptrAddIf xindexAddr xloadC xload putCells reElem xstoreB xstore xconv xtext xlen xlen2 xcall xfill xbuild cut rep xbuildSlice xbuildSliceD isRow elemD isU8 ev evs evp Go.Av.put Go.Av.get ofConst yldD yldV notBool_undef args0 cellsOf cond_true cond_false decide_true decide_false decide_eq_true_eq decide_eq_false_iff_not List.getElem?_cons_zero List.getElem?_cons_succ List.getElem?_nil List.getD_cons_zero List.getD_cons_succ List.getD_nil List.set_cons_zero List.set_cons_succ List.length_cons List.length_nil List.cons_append List.nil_append List.append_nil List.all_cons List.all_nil List.map_cons List.map_nil List.take_succ_cons List.take_zero List.drop_succ_cons List.drop_zero Bool.and_true Bool.true_and Bool.and_self Bool.and_false Bool.false_and one Go.Av.frozen beq_self_eq_true true_and and_true forall_const false_implies implies_true and_self Option.map_some Option.map_none Nat.zero_add Nat.add_zero Nat.zero_mul Nat.mul_one Nat.one_mul Int.toNat_zero ne_eq not_false_eq_true not_true_eq_false Bool.true_eq_false Bool.false_eq_true List.toList_toArray inr Go.Av.byteOf isByte decide_eq_decide Bool.not_true Bool.not_false Bool.not_eq_true' Bool.or_true Bool.true_or Bool.or_false Bool.false_or ge_iff_le gt_iff_lt and_assoc Bool.decide_eq_true beq_iff_eq beq_eq_false_iff_ne bne_iff_ne bne_self_eq_false if_true if_false Bool.and_eq_true Bool.or_eq_true Bool.and_eq_false_imp Bool.or_eq_false_iff Bool.not_eq_false' has Option.isSome_some Option.isSome_none Int.toNat_natCast Int.cast_ofNat_Int List.length_append xapp2 xapp xappS xappD xappB notInt srcOf srcB byteAV splice' xcut xcutS xcutF xcutB xcutN xcut0 cutL loOf hiOf evo xmake zelem xmax xcopy2 xcopyS xcopyB xnil xcut3 ixOf xclear2 xclearB List.getElem?_toArray xbin2 xnileq xempty xmkmap xmput xmputB xmputF isKey keyEq mfind xbin3 xeqs xeqop eqFs bothB leafEq xlook xlookB xlookF xbytes beq_c_n beq_n_c bne_c_n bne_n_c one_nil dxi dxic dbri rix dck reader blind opOk refOk Go.Op.operands Go.Call.operands List.contains_cons List.contains_nil dxg dxgc dbrg pck putD List.lookup_cons List.lookup_nil ts2 tb2 zl2 za2 Tryz.underlying2 ts3 tb3 zl3 za3 Tryz.underlying3 ts4 tb4 zl4 za4 Tryz.underlying4 ts5 tb5 zl5 za5 Tryz.underlying5 ts6 tb6 zl6 za6 Tryz.underlying6 ts7 tb7 za7 Tryz.underlying7 ts8 tb8 za8 Tryz.underlying8 ts9 tb9 zl9 za9 Tryz.underlying9 ts10 tb10 zl10 za10 Tryz.underlying10 ts11 tb11 zl11 za11 Tryz.underlying11 ts12 tb12 zl12 za12 Tryz.underlying12 ts13 tb13 za13 Tryz.underlying13 ts14 tb14 za14 Tryz.underlying14 ts18 tb18 za18 Tryz.underlying18 ts19 tb19 za19 Tryz.underlying19 ts21 tb21 zl21 za21 Tryz.underlying21 ts22 tb22 zl22 za22 Tryz.underlying22 ts24 tb24 za24 Tryz.underlying24 ts25 tb25 za25 Tryz.underlying25 ts27 tb27 zl27 za27 Tryz.underlying27 ts35 tb35 zl35 za35 Tryz.underlying35 ts36 tb36 za36 Tryz.underlying36 ts37 tb37 za37 Tryz.underlying37 ts39 tb39 zl39 za39 Tryz.underlying39 ts41 tb41 za41 Tryz.underlying41 ts42 tb42 za42 Tryz.underlying42 ts63 tb63 zl63 za63 Tryz.underlying63 ts64 tb64 zl64 za64 Tryz.underlying64 ts65 tb65 za65 Tryz.underlying65 ts66 tb66 za66 Tryz.underlying66 ts67 tb67 zl67 za67 Tryz.underlying67 ts69 tb69 za69 Tryz.underlying69 ts70 tb70 za70 Tryz.underlying70 ts73 tb73 za73 Tryz.underlying73 ts74 tb74 za74 Tryz.underlying74 ts75 tb75 zl75 za75 Tryz.underlying75 ts82 tb82 zl82 za82 Tryz.underlying82 ts96 tb96 za96 Tryz.underlying96 ts97 tb97 za97 Tryz.underlying97 ts103 tb103 za103 Tryz.underlying103 ts104 tb104 za104 Tryz.underlying104 ts109 tb109 zl109 za109 Tryz.underlying109 ts116 tb116 zl116 za116 Tryz.underlying116 ts117 tb117 za117 Tryz.underlying117 ts118 tb118 za118 Tryz.underlying118 ts120 tb120 zl120 za120 Tryz.underlying120 ts124 tb124 zl124 za124 Tryz.underlying124 ts126 tb126 za126 Tryz.underlying126 ts128 tb128 zl128 za128 Tryz.underlying128 ts130 tb130 za130 Tryz.underlying130 ts131 tb131 za131 Tryz.underlying131 ts153 tb153 zl153 za153 Tryz.underlying153 ts167 tb167 zl167 za167 Tryz.underlying167 ts171 tb171 zl171 za171 Tryz.underlying171 ts177 tb177 zl177 za177 Tryz.underlying177 ts183 tb183 zl183 za183 Tryz.underlying183 ts189 tb189 zl189 za189 Tryz.underlying189 ts191 tb191 zl191 za191 Tryz.underlying191 ts195 tb195 za195 Tryz.underlying195 ts196 tb196 za196 Tryz.underlying196 ts198 tb198 zl198 za198 Tryz.underlying198 ts203 tb203 Tryz.underlying203 ts209 tb209 za209 Tryz.underlying209 ts210 tb210 za210 Tryz.underlying210 ts211 tb211 Tryz.underlying211 ts216 tb216 za216 Tryz.underlying216 ts217 tb217 za217 Tryz.underlying217 ts220 tb220 Tryz.underlying220 ts225 tb225 Tryz.underlying225 ts226 tb226 Tryz.underlying226 ts227 tb227 za227 Tryz.underlying227 ts228 tb228 za228 Tryz.underlying228 ts232 tb232 zl232 za232 Tryz.underlying232 ts233 tb233 zl233 za233 Tryz.underlying233 ts235 tb235 zl235 za235 Tryz.underlying235 ts236 tb236 zl236 za236 Tryz.underlying236 ts237 tb237 za237 Tryz.underlying237 ts238 tb238 za238 Tryz.underlying238

theorem eq_paras_pc (ps : List Pa) (hl : ps.length < 1000000) : Pc Tryz.prog 46 [.fz 2 (ps.map paA), .fz 2 (ps.map paA)] (· = .bool true) := by
  have d0 : ((ps.length : Int) != (ps.length : Int)) = false := by simp
  refine pc_intro (ct_intro Tryz.func46 rfl Tryz.ntmps46 hB46 (by simp) fun h ρ w => go (N := 26) Tryz.ntmps46 300 ?_)
  simp only [go_sem, Nat.reduceAdd, Nat.reduceMul, Nat.reduceSub, Nat.reduceBEq, Nat.reduceLT, Nat.reduceLeDiff, reduceIte, reduceCtorEq, Int.reduceToNat, Int.reduceLE, Int.reduceLT, Int.reduceNe, Int.reduceMul, Int.reduceAdd, Int.reduceSub, Int.reduceDiv, Int.reduceMod, Int.reduceEq, Int.reduceGE, Int.reduceGT, Int.reduceNeg, Int.reduceBEq, Int.reduceBNe, Nat.reduceEqDiff, d0, List.length_map]
  refine aloop (ι := Nat) (fun i => ps.length - i) (fun i => [(13, .int .i64 i), (12, .int .i64 ps.length), (1, .fz 2 (ps.map paA)), (0, .fz 2 (ps.map paA))]) (fun _ => []) (fun i => i ≤ ps.length) 0 (by simp) ?_ ?_
  · refine Shift.weak ?_
    simp only [wk, go_sem, Nat.reduceAdd, Nat.reduceMul, Nat.reduceSub, Nat.reduceBEq, Nat.reduceLT, Nat.reduceLeDiff, reduceIte, reduceCtorEq, Int.reduceToNat, Int.reduceLE, Int.reduceLT, Int.reduceNe, Int.reduceMul, Int.reduceAdd, Int.reduceSub, Int.reduceDiv, Int.reduceMod, Int.reduceEq, Int.reduceGE, Int.reduceGT, Int.reduceNeg, Int.reduceBEq, Int.reduceBNe, Nat.reduceEqDiff]
  · intro i g1 J hJ
    by_cases gi : i < ps.length
    · have di : decide ((i : Int) < (ps.length : Int)) = true := by simp; omega
      have hg' : List.getD (List.map paA ps) i .any = .agg [.int .i64 ps[i].kind, .str ps[i].text] := by simp [List.getD, gi, paA]
      refine go (N := 26) Tryz.ntmps46 300 ?_
      simp only [go_sem, Nat.reduceAdd, Nat.reduceMul, Nat.reduceSub, Nat.reduceBEq, Nat.reduceLT, Nat.reduceLeDiff, reduceIte, reduceCtorEq, Int.reduceToNat, Int.reduceLE, Int.reduceLT, Int.reduceNe, Int.reduceMul, Int.reduceAdd, Int.reduceSub, Int.reduceDiv, Int.reduceMod, Int.reduceEq, Int.reduceGE, Int.reduceGT, Int.reduceNeg, Int.reduceBEq, Int.reduceBNe, Nat.reduceEqDiff, di, hg']
      refine adraw [] mixed (by decide) (N := 26) Tryz.ntmps46 (by decide) 100 ?_
      simp only [go_sem, Nat.reduceAdd, Nat.reduceMul, Nat.reduceSub, Nat.reduceBEq, Nat.reduceLT, Nat.reduceLeDiff, reduceIte, reduceCtorEq, Int.reduceToNat, Int.reduceLE, Int.reduceLT, Int.reduceNe, Int.reduceMul, Int.reduceAdd, Int.reduceSub, Int.reduceDiv, Int.reduceMod, Int.reduceEq, Int.reduceGE, Int.reduceGT, Int.reduceNeg, Int.reduceBEq, Int.reduceBNe, Nat.reduceEqDiff, hg', List.length_map]
      repeat refine And.intro (by first | omega | simpa using gi | rfl) ?_
      refine ⟨by kernel_rfl, ?_⟩
      refine go (N := 26) Tryz.ntmps46 300 ?_
      simp only [go_sem, Nat.reduceAdd, Nat.reduceMul, Nat.reduceSub, Nat.reduceBEq, Nat.reduceLT, Nat.reduceLeDiff, reduceIte, reduceCtorEq, Int.reduceToNat, Int.reduceLE, Int.reduceLT, Int.reduceNe, Int.reduceMul, Int.reduceAdd, Int.reduceSub, Int.reduceDiv, Int.reduceMod, Int.reduceEq, Int.reduceGE, Int.reduceGT, Int.reduceNeg, Int.reduceBEq, Int.reduceBNe, Nat.reduceEqDiff]
      refine ⟨by omega, by omega, ?_⟩
      rw [show (i : Int) + 1 = ((i + 1 : Nat) : Int) by omega]
      refine ainv (hJ (i + 1) (by omega) (by omega)) (Shift.weak ?_)
      simp only [wk, go_sem, Nat.reduceAdd, Nat.reduceMul, Nat.reduceSub, Nat.reduceBEq, Nat.reduceLT, Nat.reduceLeDiff, reduceIte, reduceCtorEq, Int.reduceToNat, Int.reduceLE, Int.reduceLT, Int.reduceNe, Int.reduceMul, Int.reduceAdd, Int.reduceSub, Int.reduceDiv, Int.reduceMod, Int.reduceEq, Int.reduceGE, Int.reduceGT, Int.reduceNeg, Int.reduceBEq, Int.reduceBNe, Nat.reduceEqDiff]
    · have di : decide ((i : Int) < (ps.length : Int)) = false := by simp; omega
      refine go (N := 26) Tryz.ntmps46 300 ?_
      simp only [go_sem, Nat.reduceAdd, Nat.reduceMul, Nat.reduceSub, Nat.reduceBEq, Nat.reduceLT, Nat.reduceLeDiff, reduceIte, reduceCtorEq, Int.reduceToNat, Int.reduceLE, Int.reduceLT, Int.reduceNe, Int.reduceMul, Int.reduceAdd, Int.reduceSub, Int.reduceDiv, Int.reduceMod, Int.reduceEq, Int.reduceGE, Int.reduceGT, Int.reduceNeg, Int.reduceBEq, Int.reduceBNe, Nat.reduceEqDiff, di]
      exact aret [4] rfl ⟨rfl, rfl⟩

theorem same_scene_pc (x : Sc) (hl : x.paras.length < 1000000) : Pc Tryz.prog 45 [scA x, scA x] (· = .bool true) := by
  have e1 : (x.no == x.no) = true := by simp
  have e2 : (x.place == x.place) = true := by simp
  have e3 : (x.set == x.set) = true := by simp
  have e4 : (x.time == x.time) = true := by simp
  simp only [scA]
  refine pc_intro (ct_intro Tryz.func45 rfl Tryz.ntmps45 hB45 (by simp) fun h ρ w => go (N := 38) Tryz.ntmps45 300 ?_)
  simp only [go_sem, Nat.reduceAdd, Nat.reduceMul, Nat.reduceSub, Nat.reduceBEq, Nat.reduceLT, Nat.reduceLeDiff, reduceIte, reduceCtorEq, Int.reduceToNat, Int.reduceLE, Int.reduceLT, Int.reduceNe, Int.reduceMul, Int.reduceAdd, Int.reduceSub, Int.reduceDiv, Int.reduceMod, Int.reduceEq, Int.reduceGE, Int.reduceGT, Int.reduceNeg, Int.reduceBEq, Int.reduceBNe, Nat.reduceEqDiff, e1, e2, e3, e4]
  refine pcall1 (eq_paras_pc x.paras hl) rfl (N := 38) Tryz.ntmps45 rfl (go (N := 38) Tryz.ntmps45 300 ?_)
  simp only [go_sem, Nat.reduceAdd, Nat.reduceMul, Nat.reduceSub, Nat.reduceBEq, Nat.reduceLT, Nat.reduceLeDiff, reduceIte, reduceCtorEq, Int.reduceToNat, Int.reduceLE, Int.reduceLT, Int.reduceNe, Int.reduceMul, Int.reduceAdd, Int.reduceSub, Int.reduceDiv, Int.reduceMod, Int.reduceEq, Int.reduceGE, Int.reduceGT, Int.reduceNeg, Int.reduceBEq, Int.reduceBNe, Nat.reduceEqDiff, e1, e2, e3, e4]
  exact aret [4] rfl ⟨rfl, rfl⟩

theorem eq_scenes_ct (b : Blk) (hb : lowB 2 b = true) (xs : List Sc) (hl : xs.length < 1000000) (hp : ∀ x ∈ xs, x.paras.length < 1000000) :
    Ct Tryz.prog 44 [.fz 5 (xs.map scA), .fz 5 (xs.map scA), .fn (.func 45) []] [b, b] (fun r s => r = .bool true ∧ s = [b, b]) := by
  have d0 : ((xs.length : Int) != (xs.length : Int)) = false := by simp
  refine ct_intro Tryz.func44 rfl Tryz.ntmps44 hB44 (by simp) fun h ρ w => go (N := 32) Tryz.ntmps44 300 ?_
  simp only [go_sem, Nat.reduceAdd, Nat.reduceMul, Nat.reduceSub, Nat.reduceBEq, Nat.reduceLT, Nat.reduceLeDiff, reduceIte, reduceCtorEq, Int.reduceToNat, Int.reduceLE, Int.reduceLT, Int.reduceNe, Int.reduceMul, Int.reduceAdd, Int.reduceSub, Int.reduceDiv, Int.reduceMod, Int.reduceEq, Int.reduceGE, Int.reduceGT, Int.reduceNeg, Int.reduceBEq, Int.reduceBNe, Nat.reduceEqDiff, d0, List.length_map]
  refine aloop (ι := Nat) (fun i => xs.length - i) (fun i => [(17, .int .i64 i), (16, .int .i64 xs.length), (15, .fz 5 (xs.map scA)), (2, .fn (.func 45) []), (1, .fz 5 (xs.map scA))]) (fun _ => [b, b]) (fun i => i ≤ xs.length) 0 (by simp) ?_ ?_
  · refine Shift.weak ?_
    simp only [wk, go_sem, Nat.reduceAdd, Nat.reduceMul, Nat.reduceSub, Nat.reduceBEq, Nat.reduceLT, Nat.reduceLeDiff, reduceIte, reduceCtorEq, Int.reduceToNat, Int.reduceLE, Int.reduceLT, Int.reduceNe, Int.reduceMul, Int.reduceAdd, Int.reduceSub, Int.reduceDiv, Int.reduceMod, Int.reduceEq, Int.reduceGE, Int.reduceGT, Int.reduceNeg, Int.reduceBEq, Int.reduceBNe, Nat.reduceEqDiff]
  · intro i g1 J hJ
    by_cases gi : i < xs.length
    · have di : decide ((i : Int) < (xs.length : Int)) = true := by simp; omega
      have hg' : List.getD (List.map scA xs) i .any = .agg [.str xs[i].no, .int .i64 xs[i].place, .str xs[i].set, .int .i64 xs[i].time, .fz 2 (xs[i].paras.map paA)] := by simp [List.getD, gi, scA]
      have hc := same_scene_pc xs[i] (hp _ (List.getElem_mem gi))
      simp only [scA] at hc
      refine go (N := 32) Tryz.ntmps44 300 ?_
      simp only [go_sem, Nat.reduceAdd, Nat.reduceMul, Nat.reduceSub, Nat.reduceBEq, Nat.reduceLT, Nat.reduceLeDiff, reduceIte, reduceCtorEq, Int.reduceToNat, Int.reduceLE, Int.reduceLT, Int.reduceNe, Int.reduceMul, Int.reduceAdd, Int.reduceSub, Int.reduceDiv, Int.reduceMod, Int.reduceEq, Int.reduceGE, Int.reduceGT, Int.reduceNeg, Int.reduceBEq, Int.reduceBNe, Nat.reduceEqDiff, di, hg', List.length_map]
      repeat refine And.intro (by first | omega | simpa using gi | rfl) ?_
      refine pcall1 (hc) rfl (N := 32) Tryz.ntmps44 rfl (go (N := 32) Tryz.ntmps44 300 ?_)
      simp only [go_sem, Nat.reduceAdd, Nat.reduceMul, Nat.reduceSub, Nat.reduceBEq, Nat.reduceLT, Nat.reduceLeDiff, reduceIte, reduceCtorEq, Int.reduceToNat, Int.reduceLE, Int.reduceLT, Int.reduceNe, Int.reduceMul, Int.reduceAdd, Int.reduceSub, Int.reduceDiv, Int.reduceMod, Int.reduceEq, Int.reduceGE, Int.reduceGT, Int.reduceNeg, Int.reduceBEq, Int.reduceBNe, Nat.reduceEqDiff]
      repeat refine And.intro (by first | omega | simpa using gi | rfl) ?_
      rw [show (i : Int) + 1 = ((i + 1 : Nat) : Int) by omega]
      refine ainv (hJ (i + 1) (by omega) (by omega)) (Shift.low 2 (by simp) (by simp) ?_ ?_)
      · simp only [List.take_succ_cons, List.take_zero, List.all_cons, List.all_nil, hb, Bool.and_self]
      · simp only [wkl, lowV, lowC, Av.get, go_sem, Nat.reduceAdd, Nat.reduceMul, Nat.reduceSub, Nat.reduceBEq, Nat.reduceLT, Nat.reduceLeDiff, reduceIte, reduceCtorEq, Int.reduceToNat, Int.reduceLE, Int.reduceLT, Int.reduceNe, Int.reduceMul, Int.reduceAdd, Int.reduceSub, Int.reduceDiv, Int.reduceMod, Int.reduceEq, Int.reduceGE, Int.reduceGT, Int.reduceNeg, Int.reduceBEq, Int.reduceBNe, Nat.reduceEqDiff]
    · have di : decide ((i : Int) < (xs.length : Int)) = false := by simp; omega
      refine go (N := 32) Tryz.ntmps44 300 ?_
      simp only [go_sem, Nat.reduceAdd, Nat.reduceMul, Nat.reduceSub, Nat.reduceBEq, Nat.reduceLT, Nat.reduceLeDiff, reduceIte, reduceCtorEq, Int.reduceToNat, Int.reduceLE, Int.reduceLT, Int.reduceNe, Int.reduceMul, Int.reduceAdd, Int.reduceSub, Int.reduceDiv, Int.reduceMod, Int.reduceEq, Int.reduceGE, Int.reduceGT, Int.reduceNeg, Int.reduceBEq, Int.reduceBNe, Nat.reduceEqDiff, di]
      exact aret [6] rfl ⟨rfl, rfl⟩

theorem same_pc (x : Sr) (hl : x.scenes.length < 1000000) (hp : ∀ y ∈ x.scenes, y.paras.length < 1000000) : Pc Tryz.prog 15 [srA x, srA x] (· = .bool true) := by
  have e1 : (x.title == x.title) = true := by simp
  simp only [srA]
  refine pc_intro (ct_intro Tryz.func15 rfl Tryz.ntmps15 hB15 (by simp) fun h ρ w => go (N := 17) Tryz.ntmps15 300 ?_)
  simp only [go_sem, Nat.reduceAdd, Nat.reduceMul, Nat.reduceSub, Nat.reduceBEq, Nat.reduceLT, Nat.reduceLeDiff, reduceIte, reduceCtorEq, Int.reduceToNat, Int.reduceLE, Int.reduceLT, Int.reduceNe, Int.reduceMul, Int.reduceAdd, Int.reduceSub, Int.reduceDiv, Int.reduceMod, Int.reduceEq, Int.reduceGE, Int.reduceGT, Int.reduceNeg, Int.reduceBEq, Int.reduceBNe, Nat.reduceEqDiff, e1]
  refine acall (eq_scenes_ct _ rfl x.scenes hl hp) (N := 17) Tryz.ntmps15 rfl ?_
  rintro _ _ ⟨rfl, rfl⟩
  refine go (N := 17) Tryz.ntmps15 300 ?_
  simp only [go_sem, Nat.reduceAdd, Nat.reduceMul, Nat.reduceSub, Nat.reduceBEq, Nat.reduceLT, Nat.reduceLeDiff, reduceIte, reduceCtorEq, Int.reduceToNat, Int.reduceLE, Int.reduceLT, Int.reduceNe, Int.reduceMul, Int.reduceAdd, Int.reduceSub, Int.reduceDiv, Int.reduceMod, Int.reduceEq, Int.reduceGE, Int.reduceGT, Int.reduceNeg, Int.reduceBEq, Int.reduceBNe, Nat.reduceEqDiff, e1]
  exact aret [4] rfl ⟨rfl, rfl⟩
end Go.Proofs.YtpjbbpilgfihbaaGreatDoor
/- The law of names that go back, walked. Own work of this seat. -/
set_option maxRecDepth 100000
set_option linter.unusedSimpArgs false
set_option linter.unusedVariables false
namespace Go.Proofs.YtpjbbpilgfihbaaGreatDoor
open Go Go.Av Go.RowKit
attribute [local go_sem ↓] br_true br_false dbr_true dbr_false dbri_true dbri_false dbrg_true dbrg_false
attribute [local go_sem] run cont br dbr dx dxc dgrd dyld dres dcall calm fieldPlace? allHas step1 opN grdN resN condN exitN stopN exitIt dOk xop xbin xint xarith xstr xbool xpick xnot xneg xextract xpart xpartOk xindex xfieldF fieldD xnew xbox xalloc xfieldAddr xptrAddIf xindexAddr xloadC xload putCells reElem xstoreB xstore xconv xtext xlen xlen2 xcall xfill xbuild cut rep xbuildSlice xbuildSliceD isRow elemD isU8 ev evs evp Go.Av.put Go.Av.get ofConst yldD yldV notBool_undef args0 cellsOf cond_true cond_false decide_true decide_false decide_eq_true_eq decide_eq_false_iff_not List.getElem?_cons_zero List.getElem?_cons_succ List.getElem?_nil List.getD_cons_zero List.getD_cons_succ List.getD_nil List.set_cons_zero List.set_cons_succ List.length_cons List.length_nil List.cons_append List.nil_append List.append_nil List.all_cons List.all_nil List.map_cons List.map_nil List.take_succ_cons List.take_zero List.drop_succ_cons List.drop_zero Bool.and_true Bool.true_and Bool.and_self Bool.and_false Bool.false_and one Go.Av.frozen beq_self_eq_true true_and and_true forall_const false_implies implies_true and_self Option.map_some Option.map_none Nat.zero_add Nat.add_zero Nat.zero_mul Nat.mul_one Nat.one_mul Int.toNat_zero ne_eq not_false_eq_true not_true_eq_false Bool.true_eq_false Bool.false_eq_true List.toList_toArray inr Go.Av.byteOf isByte decide_eq_decide Bool.not_true Bool.not_false Bool.not_eq_true' Bool.or_true Bool.true_or Bool.or_false Bool.false_or ge_iff_le gt_iff_lt and_assoc Bool.decide_eq_true beq_iff_eq beq_eq_false_iff_ne bne_iff_ne bne_self_eq_false if_true if_false Bool.and_eq_true Bool.or_eq_true Bool.and_eq_false_imp Bool.or_eq_false_iff Bool.not_eq_false' has Option.isSome_some Option.isSome_none Int.toNat_natCast Int.cast_ofNat_Int List.length_append xapp2 xapp xappS xappD xappB notInt srcOf srcB byteAV splice' xcut xcutS xcutF xcutB xcutN xcut0 cutL loOf hiOf evo xmake zelem xmax xcopy2 xcopyS xcopyB xnil xcut3 ixOf xclear2 xclearB List.getElem?_toArray xbin2 xnileq xempty xmkmap xmput xmputB xmputF isKey keyEq mfind xbin3 xeqs xeqop eqFs bothB leafEq xlook xlookB xlookF xbytes beq_c_n beq_n_c bne_c_n bne_n_c one_nil dxi dxic dbri rix dck reader blind opOk refOk Go.Op.operands Go.Call.operands List.contains_cons List.contains_nil dxg dxgc dbrg pck putD List.lookup_cons List.lookup_nil ts2 tb2 zl2 za2 Tryz.underlying2 ts3 tb3 zl3 za3 Tryz.underlying3 ts4 tb4 zl4 za4 Tryz.underlying4 ts5 tb5 zl5 za5 Tryz.underlying5 ts6 tb6 zl6 za6 Tryz.underlying6 ts7 tb7 za7 Tryz.underlying7 ts8 tb8 za8 Tryz.underlying8 ts9 tb9 zl9 za9 Tryz.underlying9 ts10 tb10 zl10 za10 Tryz.underlying10 ts11 tb11 zl11 za11 Tryz.underlying11 ts12 tb12 zl12 za12 Tryz.underlying12 ts13 tb13 za13 Tryz.underlying13 ts14 tb14 za14 Tryz.underlying14 ts18 tb18 za18 Tryz.underlying18 ts19 tb19 za19 Tryz.underlying19 ts21 tb21 zl21 za21 Tryz.underlying21 ts22 tb22 zl22 za22 Tryz.underlying22 ts24 tb24 za24 Tryz.underlying24 ts25 tb25 za25 Tryz.underlying25 ts27 tb27 zl27 za27 Tryz.underlying27 ts35 tb35 zl35 za35 Tryz.underlying35 ts36 tb36 za36 Tryz.underlying36 ts37 tb37 za37 Tryz.underlying37 ts39 tb39 zl39 za39 Tryz.underlying39 ts41 tb41 za41 Tryz.underlying41 ts42 tb42 za42 Tryz.underlying42 ts63 tb63 zl63 za63 Tryz.underlying63 ts64 tb64 zl64 za64 Tryz.underlying64 ts65 tb65 za65 Tryz.underlying65 ts66 tb66 za66 Tryz.underlying66 ts67 tb67 zl67 za67 Tryz.underlying67 ts69 tb69 za69 Tryz.underlying69 ts70 tb70 za70 Tryz.underlying70 ts73 tb73 za73 Tryz.underlying73 ts74 tb74 za74 Tryz.underlying74 ts75 tb75 zl75 za75 Tryz.underlying75 ts82 tb82 zl82 za82 Tryz.underlying82 ts96 tb96 za96 Tryz.underlying96 ts97 tb97 za97 Tryz.underlying97 ts103 tb103 za103 Tryz.underlying103 ts104 tb104 za104 Tryz.underlying104 ts109 tb109 zl109 za109 Tryz.underlying109 ts116 tb116 zl116 za116 Tryz.underlying116 ts117 tb117 za117 Tryz.underlying117 ts118 tb118 za118 Tryz.underlying118 ts120 tb120 zl120 za120 Tryz.underlying120 ts124 tb124 zl124 za124 Tryz.underlying124 ts126 tb126 za126 Tryz.underlying126 ts128 tb128 zl128 za128 Tryz.underlying128 ts130 tb130 za130 Tryz.underlying130 ts131 tb131 za131 Tryz.underlying131 ts153 tb153 zl153 za153 Tryz.underlying153 ts167 tb167 zl167 za167 Tryz.underlying167 ts171 tb171 zl171 za171 Tryz.underlying171 ts177 tb177 zl177 za177 Tryz.underlying177 ts183 tb183 zl183 za183 Tryz.underlying183 ts189 tb189 zl189 za189 Tryz.underlying189 ts191 tb191 zl191 za191 Tryz.underlying191 ts195 tb195 za195 Tryz.underlying195 ts196 tb196 za196 Tryz.underlying196 ts198 tb198 zl198 za198 Tryz.underlying198 ts203 tb203 Tryz.underlying203 ts209 tb209 za209 Tryz.underlying209 ts210 tb210 za210 Tryz.underlying210 ts211 tb211 Tryz.underlying211 ts216 tb216 za216 Tryz.underlying216 ts217 tb217 za217 Tryz.underlying217 ts220 tb220 Tryz.underlying220 ts225 tb225 Tryz.underlying225 ts226 tb226 Tryz.underlying226 ts227 tb227 za227 Tryz.underlying227 ts228 tb228 za228 Tryz.underlying228 ts232 tb232 zl232 za232 Tryz.underlying232 ts233 tb233 zl233 za233 Tryz.underlying233 ts235 tb235 zl235 za235 Tryz.underlying235 ts236 tb236 zl236 za236 Tryz.underlying236 ts237 tb237 za237 Tryz.underlying237 ts238 tb238 za238 Tryz.underlying238

set_option maxHeartbeats 4000000 in
theorem names_law_pch {S : Std} (hS : LibOk S) (L : List Int) : PcH Tryz.prog S 4 [.fz 1 (L.map (.int .i64))] (· = .bool true) := by
  refine pch_intro (cth_intro Tryz.func4 rfl Tryz.ntmps4 hB4 (by simp) fun h ρ w hg => goF (N := 58) Tryz.ntmps4 300 ?_)
  simp only [go_sem, Nat.reduceAdd, Nat.reduceMul, Nat.reduceSub, Nat.reduceBEq, Nat.reduceLT, Nat.reduceLeDiff, reduceIte, reduceCtorEq, Int.reduceToNat, Int.reduceLE, Int.reduceLT, Int.reduceNe, Int.reduceMul, Int.reduceAdd, Int.reduceSub, Int.reduceDiv, Int.reduceMod, Int.reduceEq, Int.reduceGE, Int.reduceGT, Int.reduceNeg, Int.reduceBEq, Int.reduceBNe, Nat.reduceEqDiff]
  refine mcallH hg (agg := str L 0) (anyRight_mch hS L 0 (by omega) (by omega)) rfl rfl (id := 0) rfl (N := 58) Tryz.ntmps4 rfl ?_
  rintro _ _ ⟨x, k', rfl, hx, rfl, _, _⟩
  have hok := drawn_ok hx
  have had := all_drawn hx
  have hlen := hok.len
  have hca := castOf_pc x hok
  have hsame := same_pc x (by omega) (fun y hy => by have := sum_ge x.scenes y hy; have := hok.many; omega)
  refine goF (N := 58) Tryz.ntmps4 300 ?_
  simp only [go_sem, Nat.reduceAdd, Nat.reduceMul, Nat.reduceSub, Nat.reduceBEq, Nat.reduceLT, Nat.reduceLeDiff, reduceIte, reduceCtorEq, Int.reduceToNat, Int.reduceLE, Int.reduceLT, Int.reduceNe, Int.reduceMul, Int.reduceAdd, Int.reduceSub, Int.reduceDiv, Int.reduceMod, Int.reduceEq, Int.reduceGE, Int.reduceGT, Int.reduceNeg, Int.reduceBEq, Int.reduceBNe, Nat.reduceEqDiff]
  have hsr : srA x = .agg [.str x.title, .fz 5 (x.scenes.map scA)] := rfl
  simp only [hsr] at hca hsame
  simp only [↓hsr]
  simp only [go_sem, Nat.reduceAdd, Nat.reduceMul, Nat.reduceSub, Nat.reduceBEq, Nat.reduceLT, Nat.reduceLeDiff, reduceIte, reduceCtorEq, Int.reduceToNat, Int.reduceLE, Int.reduceLT, Int.reduceNe, Int.reduceMul, Int.reduceAdd, Int.reduceSub, Int.reduceDiv, Int.reduceMod, Int.reduceEq, Int.reduceGE, Int.reduceGT, Int.reduceNeg, Int.reduceBEq, Int.reduceBNe, Nat.reduceEqDiff]
  refine pcall (hca) rfl (N := 58) Tryz.ntmps4 rfl ?_
  rintro _ ⟨rs, rfl, hrl, hrs⟩
  refine goF (N := 58) Tryz.ntmps4 300 ?_
  simp only [go_sem, Nat.reduceAdd, Nat.reduceMul, Nat.reduceSub, Nat.reduceBEq, Nat.reduceLT, Nat.reduceLeDiff, reduceIte, reduceCtorEq, Int.reduceToNat, Int.reduceLE, Int.reduceLT, Int.reduceNe, Int.reduceMul, Int.reduceAdd, Int.reduceSub, Int.reduceDiv, Int.reduceMod, Int.reduceEq, Int.reduceGE, Int.reduceGT, Int.reduceNeg, Int.reduceBEq, Int.reduceBNe, Nat.reduceEqDiff, List.length_map]
  refine aloop (ι := Nat) (fun i => rs.length - i)
    (fun i => [(21, .int .i64 i), (20, .int .i64 rs.length), (19, .fz 4 (rs.map roA)), (4, .ptr 1 1 0 0)])
    (fun _ => [.arr 2 [str L k'], .arr 2 [.agg [.str x.title, .fz 5 (x.scenes.map scA)]]]) (fun i => i ≤ rs.length) 0 (by simp) ?_ ?_
  · refine Shift.weak ?_
    simp only [wk, go_sem, Nat.reduceAdd, Nat.reduceMul, Nat.reduceSub, Nat.reduceBEq, Nat.reduceLT, Nat.reduceLeDiff, reduceIte, reduceCtorEq, Int.reduceToNat, Int.reduceLE, Int.reduceLT, Int.reduceNe, Int.reduceMul, Int.reduceAdd, Int.reduceSub, Int.reduceDiv, Int.reduceMod, Int.reduceEq, Int.reduceGE, Int.reduceGT, Int.reduceNeg, Int.reduceBEq, Int.reduceBNe, Nat.reduceEqDiff]
  · intro i g1 J hJ
    by_cases gi : i < rs.length
    · have di : decide ((i : Int) < (rs.length : Int)) = true := by simp; omega
      have hgr : List.getD (List.map roA rs) i .any = .agg [.str rs[i].name, .int .i64 rs[i].scenes, .int .i64 rs[i].speeches, .int .i64 rs[i].words] := by simp [List.getD, gi, roA]
      have hfrom := has_from (hrs _ (List.getElem_mem gi))
      have hno := name_of had hfrom
      have hJ' := hJ (i + 1) (by omega) (by omega)
      have hr1 := rename_pch hS x hok rs[i].name EVE hno.name eve_name hno.len (by decide) hfrom (by simpa using fun e => hno.eve e.symm) (no_eve had)
      simp only [hsr] at hr1
      refine goF (N := 58) Tryz.ntmps4 300 ?_
      simp only [go_sem, Nat.reduceAdd, Nat.reduceMul, Nat.reduceSub, Nat.reduceBEq, Nat.reduceLT, Nat.reduceLeDiff, reduceIte, reduceCtorEq, Int.reduceToNat, Int.reduceLE, Int.reduceLT, Int.reduceNe, Int.reduceMul, Int.reduceAdd, Int.reduceSub, Int.reduceDiv, Int.reduceMod, Int.reduceEq, Int.reduceGE, Int.reduceGT, Int.reduceNeg, Int.reduceBEq, Int.reduceBNe, Nat.reduceEqDiff, di, hgr, List.length_map]
      repeat refine And.intro (by first | omega | exact .inl trivial | rfl | (simp; done) | (simp; omega)) ?_
      refine pcallH hg (hr1) rfl (N := 58) Tryz.ntmps4 rfl ?_
      rintro _ hcase
      rcases hcase with ⟨hb, hf, rfl⟩ | ⟨e, he, _, rfl⟩
      · have hok2 := script_ren hok had hno hb hf
        have hfit := fit_back had hno
        have hback := script_back had hno
        have hmany := many_back had hno
        have hr2 := rename_pch hS (renR rs[i].name EVE x) hok2 EVE rs[i].name eve_name hno.name (by decide) hno.len (has_eve hfrom) (by simpa using hno.eve) (no_from hno.eve)
        have hsr2 : srA (renR rs[i].name EVE x) = .agg [.str x.title, .fz 5 ((renR rs[i].name EVE x).scenes.map scA)] := rfl
        simp only [hback, hmany, hsr, hsr2] at hr2
        simp only [hsr2]
        refine goF (N := 58) Tryz.ntmps4 300 ?_
        simp only [go_sem, Nat.reduceAdd, Nat.reduceMul, Nat.reduceSub, Nat.reduceBEq, Nat.reduceLT, Nat.reduceLeDiff, reduceIte, reduceCtorEq, Int.reduceToNat, Int.reduceLE, Int.reduceLT, Int.reduceNe, Int.reduceMul, Int.reduceAdd, Int.reduceSub, Int.reduceDiv, Int.reduceMod, Int.reduceEq, Int.reduceGE, Int.reduceGT, Int.reduceNeg, Int.reduceBEq, Int.reduceBNe, Nat.reduceEqDiff]
        refine pcallH hg (hr2) rfl (N := 58) Tryz.ntmps4 rfl ?_
        rintro _ hcase
        rcases hcase with ⟨_, _, rfl⟩ | ⟨e, he, hw, _⟩
        · have hne : ∀ a : Int, (a != a) = false := fun a => by simp
          refine goF (N := 58) Tryz.ntmps4 300 ?_
          simp only [go_sem, Nat.reduceAdd, Nat.reduceMul, Nat.reduceSub, Nat.reduceBEq, Nat.reduceLT, Nat.reduceLeDiff, reduceIte, reduceCtorEq, Int.reduceToNat, Int.reduceLE, Int.reduceLT, Int.reduceNe, Int.reduceMul, Int.reduceAdd, Int.reduceSub, Int.reduceDiv, Int.reduceMod, Int.reduceEq, Int.reduceGE, Int.reduceGT, Int.reduceNeg, Int.reduceBEq, Int.reduceBNe, Nat.reduceEqDiff, hne]
          refine pcall1 (hsame) rfl (N := 58) Tryz.ntmps4 rfl (goF (N := 58) Tryz.ntmps4 300 ?_)
          simp only [go_sem, Nat.reduceAdd, Nat.reduceMul, Nat.reduceSub, Nat.reduceBEq, Nat.reduceLT, Nat.reduceLeDiff, reduceIte, reduceCtorEq, Int.reduceToNat, Int.reduceLE, Int.reduceLT, Int.reduceNe, Int.reduceMul, Int.reduceAdd, Int.reduceSub, Int.reduceDiv, Int.reduceMod, Int.reduceEq, Int.reduceGE, Int.reduceGT, Int.reduceNeg, Int.reduceBEq, Int.reduceBNe, Nat.reduceEqDiff]
          repeat refine And.intro (by first | omega | exact .inl trivial | rfl | (simp; done) | (simp; omega)) ?_
          rw [show (i : Int) + 1 = ((i + 1 : Nat) : Int) by omega]
          refine ainv hJ' ?_
          refine Shift.low 2 (Nat.zero_le _) (by simp) ?_ ?_
          · simp only [List.take_succ_cons, List.take_zero, List.all_cons, List.all_nil, ↓low_box]
            rfl
          · simp only [wkl, lowV, lowC, Av.get, go_sem, Nat.reduceAdd, Nat.reduceMul, Nat.reduceSub, Nat.reduceBEq, Nat.reduceLT, Nat.reduceLeDiff, reduceIte, reduceCtorEq, Int.reduceToNat, Int.reduceLE, Int.reduceLT, Int.reduceNe, Int.reduceMul, Int.reduceAdd, Int.reduceSub, Int.reduceDiv, Int.reduceMod, Int.reduceEq, Int.reduceGE, Int.reduceGT, Int.reduceNeg, Int.reduceBEq, Int.reduceBNe, Nat.reduceEqDiff]
        · rw [hfit.1, hfit.2] at hw
          simp at hw
      · have hen : (e != 0) = true := by rcases he with rfl | rfl <;> rfl
        refine goF (N := 58) Tryz.ntmps4 300 ?_
        simp only [go_sem, Nat.reduceAdd, Nat.reduceMul, Nat.reduceSub, Nat.reduceBEq, Nat.reduceLT, Nat.reduceLeDiff, reduceIte, reduceCtorEq, Int.reduceToNat, Int.reduceLE, Int.reduceLT, Int.reduceNe, Int.reduceMul, Int.reduceAdd, Int.reduceSub, Int.reduceDiv, Int.reduceMod, Int.reduceEq, Int.reduceGE, Int.reduceGT, Int.reduceNeg, Int.reduceBEq, Int.reduceBNe, Nat.reduceEqDiff, hen]
        repeat refine And.intro (by first | omega | exact .inl trivial | rfl | (simp; done) | (simp; omega)) ?_
        rw [show (i : Int) + 1 = ((i + 1 : Nat) : Int) by omega]
        refine ainv hJ' ?_
        refine Shift.low 2 (Nat.zero_le _) (by simp) ?_ ?_
        · rfl
        · simp only [wkl, lowV, lowC, Av.get, go_sem, Nat.reduceAdd, Nat.reduceMul, Nat.reduceSub, Nat.reduceBEq, Nat.reduceLT, Nat.reduceLeDiff, reduceIte, reduceCtorEq, Int.reduceToNat, Int.reduceLE, Int.reduceLT, Int.reduceNe, Int.reduceMul, Int.reduceAdd, Int.reduceSub, Int.reduceDiv, Int.reduceMod, Int.reduceEq, Int.reduceGE, Int.reduceGT, Int.reduceNeg, Int.reduceBEq, Int.reduceBNe, Nat.reduceEqDiff]
    · have di : decide ((i : Int) < (rs.length : Int)) = false := by simp; omega
      refine goF (N := 58) Tryz.ntmps4 300 ?_
      simp only [go_sem, Nat.reduceAdd, Nat.reduceMul, Nat.reduceSub, Nat.reduceBEq, Nat.reduceLT, Nat.reduceLeDiff, reduceIte, reduceCtorEq, Int.reduceToNat, Int.reduceLE, Int.reduceLT, Int.reduceNe, Int.reduceMul, Int.reduceAdd, Int.reduceSub, Int.reduceDiv, Int.reduceMod, Int.reduceEq, Int.reduceGE, Int.reduceGT, Int.reduceNeg, Int.reduceBEq, Int.reduceBNe, Nat.reduceEqDiff, di]
      refine pcallH1 hg (scripts_pch hS) rfl (N := 58) Tryz.ntmps4 rfl (goF (N := 58) Tryz.ntmps4 300 ?_)
      simp only [go_sem, Nat.reduceAdd, Nat.reduceMul, Nat.reduceSub, Nat.reduceBEq, Nat.reduceLT, Nat.reduceLeDiff, reduceIte, reduceCtorEq, Int.reduceToNat, Int.reduceLE, Int.reduceLT, Int.reduceNe, Int.reduceMul, Int.reduceAdd, Int.reduceSub, Int.reduceDiv, Int.reduceMod, Int.reduceEq, Int.reduceGE, Int.reduceGT, Int.reduceNeg, Int.reduceBEq, Int.reduceBNe, Nat.reduceEqDiff]
      exact aret [2] rfl ⟨rfl, rfl⟩
end Go.Proofs.YtpjbbpilgfihbaaGreatDoor
