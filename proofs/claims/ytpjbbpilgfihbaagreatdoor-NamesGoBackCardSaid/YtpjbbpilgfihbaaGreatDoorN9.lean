/- Who speaks in a scene; times of scenes. Own work of this seat. -/
import Derived.Test.YtpjbbpilgfihbaaGreatDoorN8
import Derived.Test.YtpjbbpilgfihbaaGreatDoorN3
import Derived.Test.YtpjbbpilgfihbaaGreatDoorN4
import Derived.Test.YtpjbbpilgfihbaaGreatDoorN7
import Derived.RangeFuncRecord
import Derived.RangeFuncIn
import Derived.Sort.LoopGhostIn
import Derived.OrdersIn
import Derived.TacticsIn
import Derived.RangeFuncLeaves
import Derived.RangeFuncOwn
import Derived.Test.YtpjbbpilgfihbaaGreatDoorN6
import Derived.Test.YtpjbbpilgfihbaaGreatDoorN5
set_option maxRecDepth 100000
set_option linter.unusedSimpArgs false
set_option linter.unusedVariables false
namespace Go.Proofs.YtpjbbpilgfihbaaGreatDoor
open Go Go.Av Go.RowKit
attribute [local go_sem ↓] br_true br_false dbr_true dbr_false dbri_true dbri_false dbrg_true dbrg_false
attribute [local go_sem] run cont br dbr dx dxc dgrd dyld dres dcall calm fieldPlace? allHas step1 opN grdN resN condN exitN stopN exitIt dOk xop xbin xint xarith xstr xbool xpick xnot xneg xextract xpart xpartOk xindex xfieldF fieldD xnew xbox xalloc xfieldAddr xptrAddIf xindexAddr xloadC xload putCells reElem xstoreB xstore xconv xtext xlen xlen2 xcall xfill xbuild cut rep xbuildSlice xbuildSliceD isRow elemD isU8 ev evs evp Go.Av.put Go.Av.get ofConst yldD yldV notBool_undef args0 cellsOf cond_true cond_false decide_true decide_false decide_eq_true_eq decide_eq_false_iff_not List.getElem?_cons_zero List.getElem?_cons_succ List.getElem?_nil List.getD_cons_zero List.getD_cons_succ List.getD_nil List.set_cons_zero List.set_cons_succ List.length_cons List.length_nil List.cons_append List.nil_append List.append_nil List.all_cons List.all_nil List.map_cons List.map_nil List.take_succ_cons List.take_zero List.drop_succ_cons List.drop_zero Bool.and_true Bool.true_and Bool.and_self Bool.and_false Bool.false_and one Go.Av.frozen beq_self_eq_true true_and and_true forall_const false_implies implies_true and_self Option.map_some Option.map_none Nat.zero_add Nat.add_zero Nat.zero_mul Nat.mul_one Nat.one_mul Int.toNat_zero ne_eq not_false_eq_true not_true_eq_false Bool.true_eq_false Bool.false_eq_true List.toList_toArray inr Go.Av.byteOf isByte decide_eq_decide Bool.not_true Bool.not_false Bool.not_eq_true' Bool.or_true Bool.true_or Bool.or_false Bool.false_or ge_iff_le gt_iff_lt and_assoc Bool.decide_eq_true beq_iff_eq beq_eq_false_iff_ne bne_iff_ne bne_self_eq_false if_true if_false Bool.and_eq_true Bool.or_eq_true Bool.and_eq_false_imp Bool.or_eq_false_iff Bool.not_eq_false' has Option.isSome_some Option.isSome_none Int.toNat_natCast Int.cast_ofNat_Int List.length_append xapp2 xapp xappS xappD xappB notInt srcOf srcB byteAV splice' xcut xcutS xcutF xcutB xcutN xcut0 cutL loOf hiOf evo xmake zelem xmax xcopy2 xcopyS xcopyB xnil xcut3 ixOf xclear2 xclearB List.getElem?_toArray xbin2 xnileq xempty xmkmap xmput xmputB xmputF isKey keyEq mfind xbin3 xeqs xeqop eqFs bothB leafEq xlook xlookB xlookF xbytes beq_c_n beq_n_c bne_c_n bne_n_c one_nil dxi dxic dbri rix dck reader blind opOk refOk Go.Op.operands Go.Call.operands List.contains_cons List.contains_nil dxg dxgc dbrg pck putD List.lookup_cons List.lookup_nil ts2 tb2 zl2 za2 Tryz.underlying2 ts3 tb3 zl3 za3 Tryz.underlying3 ts4 tb4 zl4 za4 Tryz.underlying4 ts5 tb5 zl5 za5 Tryz.underlying5 ts6 tb6 zl6 za6 Tryz.underlying6 ts7 tb7 za7 Tryz.underlying7 ts8 tb8 za8 Tryz.underlying8 ts9 tb9 zl9 za9 Tryz.underlying9 ts10 tb10 zl10 za10 Tryz.underlying10 ts11 tb11 zl11 za11 Tryz.underlying11 ts12 tb12 zl12 za12 Tryz.underlying12 ts13 tb13 za13 Tryz.underlying13 ts14 tb14 za14 Tryz.underlying14 ts18 tb18 za18 Tryz.underlying18 ts19 tb19 za19 Tryz.underlying19 ts21 tb21 zl21 za21 Tryz.underlying21 ts22 tb22 zl22 za22 Tryz.underlying22 ts24 tb24 za24 Tryz.underlying24 ts25 tb25 za25 Tryz.underlying25 ts27 tb27 zl27 za27 Tryz.underlying27 ts35 tb35 zl35 za35 Tryz.underlying35 ts36 tb36 za36 Tryz.underlying36 ts37 tb37 za37 Tryz.underlying37 ts39 tb39 zl39 za39 Tryz.underlying39 ts41 tb41 za41 Tryz.underlying41 ts42 tb42 za42 Tryz.underlying42 ts63 tb63 zl63 za63 Tryz.underlying63 ts64 tb64 zl64 za64 Tryz.underlying64 ts65 tb65 za65 Tryz.underlying65 ts66 tb66 za66 Tryz.underlying66 ts67 tb67 zl67 za67 Tryz.underlying67 ts69 tb69 za69 Tryz.underlying69 ts70 tb70 za70 Tryz.underlying70 ts73 tb73 za73 Tryz.underlying73 ts74 tb74 za74 Tryz.underlying74 ts75 tb75 zl75 za75 Tryz.underlying75 ts82 tb82 zl82 za82 Tryz.underlying82 ts96 tb96 za96 Tryz.underlying96 ts97 tb97 za97 Tryz.underlying97 ts103 tb103 za103 Tryz.underlying103 ts104 tb104 za104 Tryz.underlying104 ts109 tb109 zl109 za109 Tryz.underlying109 ts116 tb116 zl116 za116 Tryz.underlying116 ts117 tb117 za117 Tryz.underlying117 ts118 tb118 za118 Tryz.underlying118 ts120 tb120 zl120 za120 Tryz.underlying120 ts124 tb124 zl124 za124 Tryz.underlying124 ts126 tb126 za126 Tryz.underlying126 ts128 tb128 zl128 za128 Tryz.underlying128 ts130 tb130 za130 Tryz.underlying130 ts131 tb131 za131 Tryz.underlying131 ts153 tb153 zl153 za153 Tryz.underlying153 ts167 tb167 zl167 za167 Tryz.underlying167 ts171 tb171 zl171 za171 Tryz.underlying171 ts177 tb177 zl177 za177 Tryz.underlying177 ts183 tb183 zl183 za183 Tryz.underlying183 ts189 tb189 zl189 za189 Tryz.underlying189 ts191 tb191 zl191 za191 Tryz.underlying191 ts195 tb195 za195 Tryz.underlying195 ts196 tb196 za196 Tryz.underlying196 ts198 tb198 zl198 za198 Tryz.underlying198 ts203 tb203 Tryz.underlying203 ts209 tb209 za209 Tryz.underlying209 ts210 tb210 za210 Tryz.underlying210 ts211 tb211 Tryz.underlying211 ts216 tb216 za216 Tryz.underlying216 ts217 tb217 za217 Tryz.underlying217 ts220 tb220 Tryz.underlying220 ts225 tb225 Tryz.underlying225 ts226 tb226 Tryz.underlying226 ts227 tb227 za227 Tryz.underlying227 ts228 tb228 za228 Tryz.underlying228 ts232 tb232 zl232 za232 Tryz.underlying232 ts233 tb233 zl233 za233 Tryz.underlying233 ts235 tb235 zl235 za235 Tryz.underlying235 ts236 tb236 zl236 za236 Tryz.underlying236 ts237 tb237 za237 Tryz.underlying237 ts238 tb238 za238 Tryz.underlying238

theorem eqp74 : eqPlain Tryz.prog 74 = true := by kernel_rfl
def eqP (v p : Pa) : Bool := v.kind == p.kind && v.text == p.text
theorem index_para_pc (ps : List Pa) (v : Pa) (hl : ps.length < 1000000) : Pc Tryz.prog 120 [.fz 2 (ps.map paA), paA v] (fun r => ∃ n : Int, r = .int .i64 n ∧ decide (n ≥ 0) = ps.any (eqP v)) := by
  simp only [paA]
  refine pc_intro (ct_intro Tryz.func120 rfl Tryz.ntmps120 hB120 (by simp) fun h ρ w => go (N := 19) Tryz.ntmps120 300 ?_)
  simp only [go_sem, Nat.reduceAdd, Nat.reduceMul, Nat.reduceSub, Nat.reduceBEq, Nat.reduceLT, Nat.reduceLeDiff, reduceIte, reduceCtorEq, Int.reduceToNat, Int.reduceLE, Int.reduceLT, Int.reduceNe, Int.reduceMul, Int.reduceAdd, Int.reduceSub, Int.reduceDiv, Int.reduceMod, Int.reduceEq, Int.reduceGE, Int.reduceGT, Int.reduceNeg, Int.reduceBEq, Int.reduceBNe, Nat.reduceEqDiff, List.length_map]
  refine aloop (ι := Nat) (fun i => ps.length - i) (fun i => [(8, .int .i64 i), (7, .int .i64 ps.length), (3, .ptr 0 1 0 0), (0, .fz 2 (ps.map paA))]) (fun _ => [.arr 2 [.agg [.int .i64 v.kind, .str v.text]]]) (fun i => i ≤ ps.length ∧ (ps.take i).any (eqP v) = false) 0 (by simp) ?_ ?_
  · refine Shift.weak ?_
    simp only [wk, go_sem, Nat.reduceAdd, Nat.reduceMul, Nat.reduceSub, Nat.reduceBEq, Nat.reduceLT, Nat.reduceLeDiff, reduceIte, reduceCtorEq, Int.reduceToNat, Int.reduceLE, Int.reduceLT, Int.reduceNe, Int.reduceMul, Int.reduceAdd, Int.reduceSub, Int.reduceDiv, Int.reduceMod, Int.reduceEq, Int.reduceGE, Int.reduceGT, Int.reduceNeg, Int.reduceBEq, Int.reduceBNe, Nat.reduceEqDiff]
    first | done | exact ⟨rfl, rfl⟩ | rfl
  · rintro i ⟨g1, g2⟩ J hJ
    by_cases gi : i < ps.length
    · have di : decide ((i : Int) < (ps.length : Int)) = true := by simp; omega
      have hg' : List.getD (List.map paA ps) i .any = .agg [.int .i64 ps[i].kind, .str ps[i].text] := by simp [List.getD, gi, paA]
      have again : eqP v ps[i] = false → (ps.take (i + 1)).any (eqP v) = false := fun h => by
        rw [List.take_succ_eq_append_getElem gi, List.any_append, g2]
        simp [h]
      have hit : eqP v ps[i] = true → ps.any (eqP v) = true := fun h => List.any_eq_true.2 ⟨_, List.getElem_mem gi, h⟩
      unfold eqP at again hit
      cases e1 : v.kind == ps[i].kind with
      | true =>
        cases e2 : v.text == ps[i].text with
        | true =>
          refine go (N := 19) Tryz.ntmps120 300 ?_
          simp only [go_sem, Nat.reduceAdd, Nat.reduceMul, Nat.reduceSub, Nat.reduceBEq, Nat.reduceLT, Nat.reduceLeDiff, reduceIte, reduceCtorEq, Int.reduceToNat, Int.reduceLE, Int.reduceLT, Int.reduceNe, Int.reduceMul, Int.reduceAdd, Int.reduceSub, Int.reduceDiv, Int.reduceMod, Int.reduceEq, Int.reduceGE, Int.reduceGT, Int.reduceNeg, Int.reduceBEq, Int.reduceBNe, Nat.reduceEqDiff, di]
          refine adraw [] mixed (by decide) (N := 19) Tryz.ntmps120 (by decide) 100 ?_
          simp only [go_sem, Nat.reduceAdd, Nat.reduceMul, Nat.reduceSub, Nat.reduceBEq, Nat.reduceLT, Nat.reduceLeDiff, reduceIte, reduceCtorEq, Int.reduceToNat, Int.reduceLE, Int.reduceLT, Int.reduceNe, Int.reduceMul, Int.reduceAdd, Int.reduceSub, Int.reduceDiv, Int.reduceMod, Int.reduceEq, Int.reduceGE, Int.reduceGT, Int.reduceNeg, Int.reduceBEq, Int.reduceBNe, Nat.reduceEqDiff, hg', List.length_map, e1, e2]
          repeat refine And.intro (by first | omega | exact eqp74 | simpa using gi) ?_
          refine go (N := 19) Tryz.ntmps120 300 ?_
          simp only [go_sem, Nat.reduceAdd, Nat.reduceMul, Nat.reduceSub, Nat.reduceBEq, Nat.reduceLT, Nat.reduceLeDiff, reduceIte, reduceCtorEq, Int.reduceToNat, Int.reduceLE, Int.reduceLT, Int.reduceNe, Int.reduceMul, Int.reduceAdd, Int.reduceSub, Int.reduceDiv, Int.reduceMod, Int.reduceEq, Int.reduceGE, Int.reduceGT, Int.reduceNeg, Int.reduceBEq, Int.reduceBNe, Nat.reduceEqDiff]
          refine aret [4] rfl ⟨⟨_, rfl, ?_⟩, rfl⟩
          have := hit (by rw [e1, e2]; rfl)
          unfold eqP
          rw [this]
          simp
        | false =>
          refine go (N := 19) Tryz.ntmps120 300 ?_
          simp only [go_sem, Nat.reduceAdd, Nat.reduceMul, Nat.reduceSub, Nat.reduceBEq, Nat.reduceLT, Nat.reduceLeDiff, reduceIte, reduceCtorEq, Int.reduceToNat, Int.reduceLE, Int.reduceLT, Int.reduceNe, Int.reduceMul, Int.reduceAdd, Int.reduceSub, Int.reduceDiv, Int.reduceMod, Int.reduceEq, Int.reduceGE, Int.reduceGT, Int.reduceNeg, Int.reduceBEq, Int.reduceBNe, Nat.reduceEqDiff, di]
          refine adraw [] mixed (by decide) (N := 19) Tryz.ntmps120 (by decide) 100 ?_
          simp only [go_sem, Nat.reduceAdd, Nat.reduceMul, Nat.reduceSub, Nat.reduceBEq, Nat.reduceLT, Nat.reduceLeDiff, reduceIte, reduceCtorEq, Int.reduceToNat, Int.reduceLE, Int.reduceLT, Int.reduceNe, Int.reduceMul, Int.reduceAdd, Int.reduceSub, Int.reduceDiv, Int.reduceMod, Int.reduceEq, Int.reduceGE, Int.reduceGT, Int.reduceNeg, Int.reduceBEq, Int.reduceBNe, Nat.reduceEqDiff, hg', List.length_map, e1, e2]
          repeat refine And.intro (by first | omega | exact eqp74 | simpa using gi) ?_
          refine go (N := 19) Tryz.ntmps120 300 ?_
          simp only [go_sem, Nat.reduceAdd, Nat.reduceMul, Nat.reduceSub, Nat.reduceBEq, Nat.reduceLT, Nat.reduceLeDiff, reduceIte, reduceCtorEq, Int.reduceToNat, Int.reduceLE, Int.reduceLT, Int.reduceNe, Int.reduceMul, Int.reduceAdd, Int.reduceSub, Int.reduceDiv, Int.reduceMod, Int.reduceEq, Int.reduceGE, Int.reduceGT, Int.reduceNeg, Int.reduceBEq, Int.reduceBNe, Nat.reduceEqDiff]
          repeat refine And.intro (by omega) ?_
          rw [show (i : Int) + 1 = ((i + 1 : Nat) : Int) by omega]
          refine ainv (hJ (i + 1) ⟨by omega, again (by rw [e1, e2]; rfl)⟩ (by omega)) (Shift.weak ?_)
          simp only [wk, go_sem, Nat.reduceAdd, Nat.reduceMul, Nat.reduceSub, Nat.reduceBEq, Nat.reduceLT, Nat.reduceLeDiff, reduceIte, reduceCtorEq, Int.reduceToNat, Int.reduceLE, Int.reduceLT, Int.reduceNe, Int.reduceMul, Int.reduceAdd, Int.reduceSub, Int.reduceDiv, Int.reduceMod, Int.reduceEq, Int.reduceGE, Int.reduceGT, Int.reduceNeg, Int.reduceBEq, Int.reduceBNe, Nat.reduceEqDiff]
      | false =>
        refine go (N := 19) Tryz.ntmps120 300 ?_
        simp only [go_sem, Nat.reduceAdd, Nat.reduceMul, Nat.reduceSub, Nat.reduceBEq, Nat.reduceLT, Nat.reduceLeDiff, reduceIte, reduceCtorEq, Int.reduceToNat, Int.reduceLE, Int.reduceLT, Int.reduceNe, Int.reduceMul, Int.reduceAdd, Int.reduceSub, Int.reduceDiv, Int.reduceMod, Int.reduceEq, Int.reduceGE, Int.reduceGT, Int.reduceNeg, Int.reduceBEq, Int.reduceBNe, Nat.reduceEqDiff, di]
        refine adraw [] mixed (by decide) (N := 19) Tryz.ntmps120 (by decide) 100 ?_
        simp only [go_sem, Nat.reduceAdd, Nat.reduceMul, Nat.reduceSub, Nat.reduceBEq, Nat.reduceLT, Nat.reduceLeDiff, reduceIte, reduceCtorEq, Int.reduceToNat, Int.reduceLE, Int.reduceLT, Int.reduceNe, Int.reduceMul, Int.reduceAdd, Int.reduceSub, Int.reduceDiv, Int.reduceMod, Int.reduceEq, Int.reduceGE, Int.reduceGT, Int.reduceNeg, Int.reduceBEq, Int.reduceBNe, Nat.reduceEqDiff, hg', List.length_map, e1]
        repeat refine And.intro (by first | omega | exact eqp74 | simpa using gi) ?_
        refine go (N := 19) Tryz.ntmps120 300 ?_
        simp only [go_sem, Nat.reduceAdd, Nat.reduceMul, Nat.reduceSub, Nat.reduceBEq, Nat.reduceLT, Nat.reduceLeDiff, reduceIte, reduceCtorEq, Int.reduceToNat, Int.reduceLE, Int.reduceLT, Int.reduceNe, Int.reduceMul, Int.reduceAdd, Int.reduceSub, Int.reduceDiv, Int.reduceMod, Int.reduceEq, Int.reduceGE, Int.reduceGT, Int.reduceNeg, Int.reduceBEq, Int.reduceBNe, Nat.reduceEqDiff]
        repeat refine And.intro (by omega) ?_
        rw [show (i : Int) + 1 = ((i + 1 : Nat) : Int) by omega]
        refine ainv (hJ (i + 1) ⟨by omega, again (by rw [e1]; rfl)⟩ (by omega)) (Shift.weak ?_)
        simp only [wk, go_sem, Nat.reduceAdd, Nat.reduceMul, Nat.reduceSub, Nat.reduceBEq, Nat.reduceLT, Nat.reduceLeDiff, reduceIte, reduceCtorEq, Int.reduceToNat, Int.reduceLE, Int.reduceLT, Int.reduceNe, Int.reduceMul, Int.reduceAdd, Int.reduceSub, Int.reduceDiv, Int.reduceMod, Int.reduceEq, Int.reduceGE, Int.reduceGT, Int.reduceNeg, Int.reduceBEq, Int.reduceBNe, Nat.reduceEqDiff]
    · have di : decide ((i : Int) < (ps.length : Int)) = false := by simp; omega
      rw [List.take_of_length_le (by omega)] at g2
      refine go (N := 19) Tryz.ntmps120 300 ?_
      simp only [go_sem, Nat.reduceAdd, Nat.reduceMul, Nat.reduceSub, Nat.reduceBEq, Nat.reduceLT, Nat.reduceLeDiff, reduceIte, reduceCtorEq, Int.reduceToNat, Int.reduceLE, Int.reduceLT, Int.reduceNe, Int.reduceMul, Int.reduceAdd, Int.reduceSub, Int.reduceDiv, Int.reduceMod, Int.reduceEq, Int.reduceGE, Int.reduceGT, Int.reduceNeg, Int.reduceBEq, Int.reduceBNe, Nat.reduceEqDiff, di]
      exact aret [4] rfl ⟨⟨_, rfl, by rw [g2]; rfl⟩, rfl⟩

theorem contains_para_pc (ps : List Pa) (v : Pa) (hl : ps.length < 1000000) : Pc Tryz.prog 75 [.fz 2 (ps.map paA), paA v] (· = .bool (ps.any (eqP v))) := by
  have hi := index_para_pc ps v hl
  simp only [paA] at hi ⊢
  refine pc_intro (ct_intro Tryz.func75 rfl Tryz.ntmps75 hB75 (by simp) fun h ρ w => go (N := 9) Tryz.ntmps75 300 ?_)
  simp only [go_sem, Nat.reduceAdd, Nat.reduceMul, Nat.reduceSub, Nat.reduceBEq, Nat.reduceLT, Nat.reduceLeDiff, reduceIte, reduceCtorEq, Int.reduceToNat, Int.reduceLE, Int.reduceLT, Int.reduceNe, Int.reduceMul, Int.reduceAdd, Int.reduceSub, Int.reduceDiv, Int.reduceMod, Int.reduceEq, Int.reduceGE, Int.reduceGT, Int.reduceNeg, Int.reduceBEq, Int.reduceBNe, Nat.reduceEqDiff]
  refine pcall (hi) rfl (N := 9) Tryz.ntmps75 rfl ?_
  rintro _ ⟨n, rfl, hn⟩
  refine go (N := 9) Tryz.ntmps75 300 ?_
  simp only [go_sem, Nat.reduceAdd, Nat.reduceMul, Nat.reduceSub, Nat.reduceBEq, Nat.reduceLT, Nat.reduceLeDiff, reduceIte, reduceCtorEq, Int.reduceToNat, Int.reduceLE, Int.reduceLT, Int.reduceNe, Int.reduceMul, Int.reduceAdd, Int.reduceSub, Int.reduceDiv, Int.reduceMod, Int.reduceEq, Int.reduceGE, Int.reduceGT, Int.reduceNeg, Int.reduceBEq, Int.reduceBNe, Nat.reduceEqDiff]
  exact aret [4] rfl ⟨by rw [← hn]; rfl, rfl⟩

def hasCueL (x : Sc) (name : List UInt8) : Bool := x.paras.any (eqP ⟨2, name⟩)
theorem hasCue_pc (x : Sc) (name : List UInt8) (hl : x.paras.length < 1000000) : Pc Tryz.prog 40 [scA x, .str name] (· = .bool (hasCueL x name)) := by
  have hi := contains_para_pc x.paras ⟨2, name⟩ hl
  simp only [paA] at hi
  simp only [scA]
  refine pc_intro (ct_intro Tryz.func40 rfl Tryz.ntmps40 hB40 (by simp) fun h ρ w => go (N := 10) Tryz.ntmps40 300 ?_)
  simp only [go_sem, Nat.reduceAdd, Nat.reduceMul, Nat.reduceSub, Nat.reduceBEq, Nat.reduceLT, Nat.reduceLeDiff, reduceIte, reduceCtorEq, Int.reduceToNat, Int.reduceLE, Int.reduceLT, Int.reduceNe, Int.reduceMul, Int.reduceAdd, Int.reduceSub, Int.reduceDiv, Int.reduceMod, Int.reduceEq, Int.reduceGE, Int.reduceGT, Int.reduceNeg, Int.reduceBEq, Int.reduceBNe, Nat.reduceEqDiff]
  refine pcall1 (hi) rfl (N := 10) Tryz.ntmps40 rfl (go (N := 10) Tryz.ntmps40 300 ?_)
  simp only [go_sem, Nat.reduceAdd, Nat.reduceMul, Nat.reduceSub, Nat.reduceBEq, Nat.reduceLT, Nat.reduceLeDiff, reduceIte, reduceCtorEq, Int.reduceToNat, Int.reduceLE, Int.reduceLT, Int.reduceNe, Int.reduceMul, Int.reduceAdd, Int.reduceSub, Int.reduceDiv, Int.reduceMod, Int.reduceEq, Int.reduceGE, Int.reduceGT, Int.reduceNeg, Int.reduceBEq, Int.reduceBNe, Nat.reduceEqDiff]
  exact aret [4] rfl ⟨rfl, rfl⟩

end Go.Proofs.YtpjbbpilgfihbaaGreatDoor
/- Has somebody a cue: the closures of Rename. Own work of this seat. -/
set_option maxRecDepth 100000
set_option linter.unusedSimpArgs false
set_option linter.unusedVariables false
namespace Go.Proofs.YtpjbbpilgfihbaaGreatDoor
open Go Go.Av Go.RowKit
attribute [local go_sem ↓] br_true br_false dbr_true dbr_false dbri_true dbri_false dbrg_true dbrg_false
attribute [local go_sem] run cont br dbr dx dxc dgrd dyld dres dcall calm fieldPlace? allHas step1 opN grdN resN condN exitN stopN exitIt dOk xop xbin xint xarith xstr xbool xpick xnot xneg xextract xpart xpartOk xindex xfieldF fieldD xnew xbox xalloc xfieldAddr xptrAddIf xindexAddr xloadC xload putCells reElem xstoreB xstore xconv xtext xlen xlen2 xcall xfill xbuild cut rep xbuildSlice xbuildSliceD isRow elemD isU8 ev evs evp Go.Av.put Go.Av.get ofConst yldD yldV notBool_undef args0 cellsOf cond_true cond_false decide_true decide_false decide_eq_true_eq decide_eq_false_iff_not List.getElem?_cons_zero List.getElem?_cons_succ List.getElem?_nil List.getD_cons_zero List.getD_cons_succ List.getD_nil List.set_cons_zero List.set_cons_succ List.length_cons List.length_nil List.cons_append List.nil_append List.append_nil List.all_cons List.all_nil List.map_cons List.map_nil List.take_succ_cons List.take_zero List.drop_succ_cons List.drop_zero Bool.and_true Bool.true_and Bool.and_self Bool.and_false Bool.false_and one Go.Av.frozen beq_self_eq_true true_and and_true forall_const false_implies implies_true and_self Option.map_some Option.map_none Nat.zero_add Nat.add_zero Nat.zero_mul Nat.mul_one Nat.one_mul Int.toNat_zero ne_eq not_false_eq_true not_true_eq_false Bool.true_eq_false Bool.false_eq_true List.toList_toArray inr Go.Av.byteOf isByte decide_eq_decide Bool.not_true Bool.not_false Bool.not_eq_true' Bool.or_true Bool.true_or Bool.or_false Bool.false_or ge_iff_le gt_iff_lt and_assoc Bool.decide_eq_true beq_iff_eq beq_eq_false_iff_ne bne_iff_ne bne_self_eq_false if_true if_false Bool.and_eq_true Bool.or_eq_true Bool.and_eq_false_imp Bool.or_eq_false_iff Bool.not_eq_false' has Option.isSome_some Option.isSome_none Int.toNat_natCast Int.cast_ofNat_Int List.length_append xapp2 xapp xappS xappD xappB notInt srcOf srcB byteAV splice' xcut xcutS xcutF xcutB xcutN xcut0 cutL loOf hiOf evo xmake zelem xmax xcopy2 xcopyS xcopyB xnil xcut3 ixOf xclear2 xclearB List.getElem?_toArray xbin2 xnileq xempty xmkmap xmput xmputB xmputF isKey keyEq mfind xbin3 xeqs xeqop eqFs bothB leafEq xlook xlookB xlookF xbytes beq_c_n beq_n_c bne_c_n bne_n_c one_nil dxi dxic dbri rix dck reader blind opOk refOk Go.Op.operands Go.Call.operands List.contains_cons List.contains_nil dxg dxgc dbrg pck putD List.lookup_cons List.lookup_nil ts2 tb2 zl2 za2 Tryz.underlying2 ts3 tb3 zl3 za3 Tryz.underlying3 ts4 tb4 zl4 za4 Tryz.underlying4 ts5 tb5 zl5 za5 Tryz.underlying5 ts6 tb6 zl6 za6 Tryz.underlying6 ts7 tb7 za7 Tryz.underlying7 ts8 tb8 za8 Tryz.underlying8 ts9 tb9 zl9 za9 Tryz.underlying9 ts10 tb10 zl10 za10 Tryz.underlying10 ts11 tb11 zl11 za11 Tryz.underlying11 ts12 tb12 zl12 za12 Tryz.underlying12 ts13 tb13 za13 Tryz.underlying13 ts14 tb14 za14 Tryz.underlying14 ts18 tb18 za18 Tryz.underlying18 ts19 tb19 za19 Tryz.underlying19 ts21 tb21 zl21 za21 Tryz.underlying21 ts22 tb22 zl22 za22 Tryz.underlying22 ts24 tb24 za24 Tryz.underlying24 ts25 tb25 za25 Tryz.underlying25 ts27 tb27 zl27 za27 Tryz.underlying27 ts35 tb35 zl35 za35 Tryz.underlying35 ts36 tb36 za36 Tryz.underlying36 ts37 tb37 za37 Tryz.underlying37 ts39 tb39 zl39 za39 Tryz.underlying39 ts41 tb41 za41 Tryz.underlying41 ts42 tb42 za42 Tryz.underlying42 ts63 tb63 zl63 za63 Tryz.underlying63 ts64 tb64 zl64 za64 Tryz.underlying64 ts65 tb65 za65 Tryz.underlying65 ts66 tb66 za66 Tryz.underlying66 ts67 tb67 zl67 za67 Tryz.underlying67 ts69 tb69 za69 Tryz.underlying69 ts70 tb70 za70 Tryz.underlying70 ts73 tb73 za73 Tryz.underlying73 ts74 tb74 za74 Tryz.underlying74 ts75 tb75 zl75 za75 Tryz.underlying75 ts82 tb82 zl82 za82 Tryz.underlying82 ts96 tb96 za96 Tryz.underlying96 ts97 tb97 za97 Tryz.underlying97 ts103 tb103 za103 Tryz.underlying103 ts104 tb104 za104 Tryz.underlying104 ts109 tb109 zl109 za109 Tryz.underlying109 ts116 tb116 zl116 za116 Tryz.underlying116 ts117 tb117 za117 Tryz.underlying117 ts118 tb118 za118 Tryz.underlying118 ts120 tb120 zl120 za120 Tryz.underlying120 ts124 tb124 zl124 za124 Tryz.underlying124 ts126 tb126 za126 Tryz.underlying126 ts128 tb128 zl128 za128 Tryz.underlying128 ts130 tb130 za130 Tryz.underlying130 ts131 tb131 za131 Tryz.underlying131 ts153 tb153 zl153 za153 Tryz.underlying153 ts167 tb167 zl167 za167 Tryz.underlying167 ts171 tb171 zl171 za171 Tryz.underlying171 ts177 tb177 zl177 za177 Tryz.underlying177 ts183 tb183 zl183 za183 Tryz.underlying183 ts189 tb189 zl189 za189 Tryz.underlying189 ts191 tb191 zl191 za191 Tryz.underlying191 ts195 tb195 za195 Tryz.underlying195 ts196 tb196 za196 Tryz.underlying196 ts198 tb198 zl198 za198 Tryz.underlying198 ts203 tb203 Tryz.underlying203 ts209 tb209 za209 Tryz.underlying209 ts210 tb210 za210 Tryz.underlying210 ts211 tb211 Tryz.underlying211 ts216 tb216 za216 Tryz.underlying216 ts217 tb217 za217 Tryz.underlying217 ts220 tb220 Tryz.underlying220 ts225 tb225 Tryz.underlying225 ts226 tb226 Tryz.underlying226 ts227 tb227 za227 Tryz.underlying227 ts228 tb228 za228 Tryz.underlying228 ts232 tb232 zl232 za232 Tryz.underlying232 ts233 tb233 zl233 za233 Tryz.underlying233 ts235 tb235 zl235 za235 Tryz.underlying235 ts236 tb236 zl236 za236 Tryz.underlying236 ts237 tb237 za237 Tryz.underlying237 ts238 tb238 za238 Tryz.underlying238

theorem cueFn_ct (b0 b1 : Blk) (h0 : lowB 3 b0 = true) (h1 : lowB 3 b1 = true) (nm : List UInt8) (x : Sc) (hl : x.paras.length < 1000000) :
    Ct Tryz.prog 39 [scA x, .ptr 2 1 0 0] [b0, b1, .arr 1 [.str nm]] (fun v s => v = .bool (hasCueL x nm) ∧ s = [b0, b1, .arr 1 [.str nm]]) := by
  have hc := hasCue_pc x nm hl
  simp only [scA] at hc ⊢
  refine ct_intro Tryz.func39 rfl Tryz.ntmps39 hB39 (by simp) fun h ρ w => go (N := 7) Tryz.ntmps39 300 ?_
  simp only [go_sem, Nat.reduceAdd, Nat.reduceMul, Nat.reduceSub, Nat.reduceBEq, Nat.reduceLT, Nat.reduceLeDiff, reduceIte, reduceCtorEq, Int.reduceToNat, Int.reduceLE, Int.reduceLT, Int.reduceNe, Int.reduceMul, Int.reduceAdd, Int.reduceSub, Int.reduceDiv, Int.reduceMod, Int.reduceEq, Int.reduceGE, Int.reduceGT, Int.reduceNeg, Int.reduceBEq, Int.reduceBNe, Nat.reduceEqDiff]
  refine pcall1 (hc) rfl (N := 7) Tryz.ntmps39 rfl (go (N := 7) Tryz.ntmps39 300 ?_)
  simp only [go_sem, Nat.reduceAdd, Nat.reduceMul, Nat.reduceSub, Nat.reduceBEq, Nat.reduceLT, Nat.reduceLeDiff, reduceIte, reduceCtorEq, Int.reduceToNat, Int.reduceLE, Int.reduceLT, Int.reduceNe, Int.reduceMul, Int.reduceAdd, Int.reduceSub, Int.reduceDiv, Int.reduceMod, Int.reduceEq, Int.reduceGE, Int.reduceGT, Int.reduceNeg, Int.reduceBEq, Int.reduceBNe, Nat.reduceEqDiff]
  refine ARet.shift (Shift.low 3 (e' := [(3, .bool (hasCueL x nm))]) (by simp) (by simp) ?_ ?_) (aret [3] rfl ⟨rfl, rfl⟩)
  · simp only [List.take_succ_cons, List.take_zero, List.all_cons, List.all_nil, h0, h1, Bool.and_self, Bool.true_and]
    rfl
  · simp only [wkl, lowV, lowC, Av.get, go_sem, Nat.reduceAdd, Nat.reduceMul, Nat.reduceSub, Nat.reduceBEq, Nat.reduceLT, Nat.reduceLeDiff, reduceIte, reduceCtorEq, Int.reduceToNat, Int.reduceLE, Int.reduceLT, Int.reduceNe, Int.reduceMul, Int.reduceAdd, Int.reduceSub, Int.reduceDiv, Int.reduceMod, Int.reduceEq, Int.reduceGE, Int.reduceGT, Int.reduceNeg, Int.reduceBEq, Int.reduceBNe, Nat.reduceEqDiff]
def hasL (xs : List Sc) (nm : List UInt8) : Bool := xs.any fun x => hasCueL x nm

theorem idxScene_ct (b0 b1 : Blk) (h0 : lowB 3 b0 = true) (h1 : lowB 3 b1 = true) (nm : List UInt8) (xs : List Sc) (hl : xs.length < 1000000) (hp : ∀ x ∈ xs, x.paras.length < 1000000) :
    Ct Tryz.prog 74 [.fz 5 (xs.map scA), .fn (.func 39) [.ptr 2 1 0 0]] [b0, b1, .arr 1 [.str nm]] (fun v s => (∃ k : Int, v = .int .i64 k ∧ decide (k ≥ 0) = hasL xs nm) ∧ s = [b0, b1, .arr 1 [.str nm]]) := by
  refine ct_intro Tryz.func74 rfl Tryz.ntmps74 hB74 (by simp) fun h ρ w => go (N := 19) Tryz.ntmps74 300 ?_
  simp only [go_sem, Nat.reduceAdd, Nat.reduceMul, Nat.reduceSub, Nat.reduceBEq, Nat.reduceLT, Nat.reduceLeDiff, reduceIte, reduceCtorEq, Int.reduceToNat, Int.reduceLE, Int.reduceLT, Int.reduceNe, Int.reduceMul, Int.reduceAdd, Int.reduceSub, Int.reduceDiv, Int.reduceMod, Int.reduceEq, Int.reduceGE, Int.reduceGT, Int.reduceNeg, Int.reduceBEq, Int.reduceBNe, Nat.reduceEqDiff, List.length_map]
  refine aloop (ι := Nat) (fun i => xs.length - i) (fun i => [(8, .int .i64 i), (7, .int .i64 xs.length), (1, .fn (.func 39) [.ptr 2 1 0 0]), (0, .fz 5 (xs.map scA))]) (fun _ => [b0, b1, .arr 1 [.str nm]]) (fun i => i ≤ xs.length ∧ hasL (xs.take i) nm = false) 0 ⟨by simp, rfl⟩ ?_ ?_
  · refine Shift.weak ?_
    simp only [wk, go_sem, Nat.reduceAdd, Nat.reduceMul, Nat.reduceSub, Nat.reduceBEq, Nat.reduceLT, Nat.reduceLeDiff, reduceIte, reduceCtorEq, Int.reduceToNat, Int.reduceLE, Int.reduceLT, Int.reduceNe, Int.reduceMul, Int.reduceAdd, Int.reduceSub, Int.reduceDiv, Int.reduceMod, Int.reduceEq, Int.reduceGE, Int.reduceGT, Int.reduceNeg, Int.reduceBEq, Int.reduceBNe, Nat.reduceEqDiff]
  · rintro i ⟨g1, g2⟩ J hJ
    by_cases gi : i < xs.length
    · have di : decide ((i : Int) < (xs.length : Int)) = true := by simp; omega
      have hg' : List.getD (List.map scA xs) i .any = .agg [.str xs[i].no, .int .i64 xs[i].place, .str xs[i].set, .int .i64 xs[i].time, .fz 2 (xs[i].paras.map paA)] := by simp [List.getD, gi, scA]
      have hf := cueFn_ct b0 b1 h0 h1 nm xs[i] (hp _ (List.getElem_mem gi))
      simp only [scA] at hf
      refine go (N := 19) Tryz.ntmps74 300 ?_
      simp only [go_sem, Nat.reduceAdd, Nat.reduceMul, Nat.reduceSub, Nat.reduceBEq, Nat.reduceLT, Nat.reduceLeDiff, reduceIte, reduceCtorEq, Int.reduceToNat, Int.reduceLE, Int.reduceLT, Int.reduceNe, Int.reduceMul, Int.reduceAdd, Int.reduceSub, Int.reduceDiv, Int.reduceMod, Int.reduceEq, Int.reduceGE, Int.reduceGT, Int.reduceNeg, Int.reduceBEq, Int.reduceBNe, Nat.reduceEqDiff, di, hg', List.length_map]
      repeat refine And.intro (by first | omega | exact .inl trivial | rfl | (simp; done) | (simp; omega)) ?_
      refine acall (hf) (N := 19) Tryz.ntmps74 rfl ?_
      rintro _ _ ⟨rfl, rfl⟩
      refine go (N := 19) Tryz.ntmps74 300 ?_
      cases hq : hasCueL xs[i] nm with
      | true =>
        simp only [go_sem, Nat.reduceAdd, Nat.reduceMul, Nat.reduceSub, Nat.reduceBEq, Nat.reduceLT, Nat.reduceLeDiff, reduceIte, reduceCtorEq, Int.reduceToNat, Int.reduceLE, Int.reduceLT, Int.reduceNe, Int.reduceMul, Int.reduceAdd, Int.reduceSub, Int.reduceDiv, Int.reduceMod, Int.reduceEq, Int.reduceGE, Int.reduceGT, Int.reduceNeg, Int.reduceBEq, Int.reduceBNe, Nat.reduceEqDiff, hq]
        exact aret [4] rfl ⟨⟨i, rfl, by
          have : hasL xs nm = true := List.any_eq_true.2 ⟨_, List.getElem_mem gi, hq⟩
          rw [this]; simp⟩, rfl⟩
      | false =>
        simp only [go_sem, Nat.reduceAdd, Nat.reduceMul, Nat.reduceSub, Nat.reduceBEq, Nat.reduceLT, Nat.reduceLeDiff, reduceIte, reduceCtorEq, Int.reduceToNat, Int.reduceLE, Int.reduceLT, Int.reduceNe, Int.reduceMul, Int.reduceAdd, Int.reduceSub, Int.reduceDiv, Int.reduceMod, Int.reduceEq, Int.reduceGE, Int.reduceGT, Int.reduceNeg, Int.reduceBEq, Int.reduceBNe, Nat.reduceEqDiff, hq]
        repeat refine And.intro (by first | omega | exact .inl trivial | rfl | (simp; done) | (simp; omega)) ?_
        rw [show (i : Int) + 1 = ((i + 1 : Nat) : Int) by omega]
        refine ainv (hJ (i + 1) ⟨by omega, by rw [List.take_succ_eq_append_getElem gi]; simp only [hasL, List.any_append, List.any_cons, List.any_nil, hq] at g2 ⊢; simp [g2]⟩ (by omega)) (Shift.weak ?_)
        simp only [wk, go_sem, Nat.reduceAdd, Nat.reduceMul, Nat.reduceSub, Nat.reduceBEq, Nat.reduceLT, Nat.reduceLeDiff, reduceIte, reduceCtorEq, Int.reduceToNat, Int.reduceLE, Int.reduceLT, Int.reduceNe, Int.reduceMul, Int.reduceAdd, Int.reduceSub, Int.reduceDiv, Int.reduceMod, Int.reduceEq, Int.reduceGE, Int.reduceGT, Int.reduceNeg, Int.reduceBEq, Int.reduceBNe, Nat.reduceEqDiff]
    · have di : decide ((i : Int) < (xs.length : Int)) = false := by simp; omega
      refine go (N := 19) Tryz.ntmps74 300 ?_
      simp only [go_sem, Nat.reduceAdd, Nat.reduceMul, Nat.reduceSub, Nat.reduceBEq, Nat.reduceLT, Nat.reduceLeDiff, reduceIte, reduceCtorEq, Int.reduceToNat, Int.reduceLE, Int.reduceLT, Int.reduceNe, Int.reduceMul, Int.reduceAdd, Int.reduceSub, Int.reduceDiv, Int.reduceMod, Int.reduceEq, Int.reduceGE, Int.reduceGT, Int.reduceNeg, Int.reduceBEq, Int.reduceBNe, Nat.reduceEqDiff, di]
      exact aret [4] rfl ⟨⟨-1, rfl, by
        rw [List.take_of_length_le (by omega)] at g2
        rw [g2]; rfl⟩, rfl⟩
theorem anyScene_ct (b0 b1 : Blk) (h0 : lowB 3 b0 = true) (h1 : lowB 3 b1 = true) (nm : List UInt8) (xs : List Sc) (hl : xs.length < 1000000) (hp : ∀ x ∈ xs, x.paras.length < 1000000) :
    Ct Tryz.prog 38 [.fz 5 (xs.map scA), .fn (.func 39) [.ptr 2 1 0 0]] [b0, b1, .arr 1 [.str nm]] (fun v s => v = .bool (hasL xs nm) ∧ s = [b0, b1, .arr 1 [.str nm]]) := by
  refine ct_intro Tryz.func38 rfl Tryz.ntmps38 hB38 (by simp) fun h ρ w => go (N := 9) Tryz.ntmps38 300 ?_
  simp only [go_sem, Nat.reduceAdd, Nat.reduceMul, Nat.reduceSub, Nat.reduceBEq, Nat.reduceLT, Nat.reduceLeDiff, reduceIte, reduceCtorEq, Int.reduceToNat, Int.reduceLE, Int.reduceLT, Int.reduceNe, Int.reduceMul, Int.reduceAdd, Int.reduceSub, Int.reduceDiv, Int.reduceMod, Int.reduceEq, Int.reduceGE, Int.reduceGT, Int.reduceNeg, Int.reduceBEq, Int.reduceBNe, Nat.reduceEqDiff]
  refine acall (idxScene_ct b0 b1 h0 h1 nm xs hl hp) (N := 9) Tryz.ntmps38 rfl ?_
  rintro _ _ ⟨⟨k, rfl, hk⟩, rfl⟩
  refine go (N := 9) Tryz.ntmps38 300 ?_
  simp only [go_sem, Nat.reduceAdd, Nat.reduceMul, Nat.reduceSub, Nat.reduceBEq, Nat.reduceLT, Nat.reduceLeDiff, reduceIte, reduceCtorEq, Int.reduceToNat, Int.reduceLE, Int.reduceLT, Int.reduceNe, Int.reduceMul, Int.reduceAdd, Int.reduceSub, Int.reduceDiv, Int.reduceMod, Int.reduceEq, Int.reduceGE, Int.reduceGT, Int.reduceNeg, Int.reduceBEq, Int.reduceBNe, Nat.reduceEqDiff, hk]
  exact aret [4] rfl ⟨rfl, rfl⟩
theorem has_ct (ti : List UInt8) (b1 : Blk) (h1 : lowB 2 b1 = true) (h2 : lowB 3 b1 = true) (nm : List UInt8) (xs : List Sc) (hl : xs.length < 1000000) (hp : ∀ x ∈ xs, x.paras.length < 1000000) :
    Ct Tryz.prog 37 [.str nm, .ptr 0 1 0 0] [.arr 2 [.agg [.str ti, .fz 5 (xs.map scA)]], b1] (fun v s => v = .bool (hasL xs nm) ∧ s = [.arr 2 [.agg [.str ti, .fz 5 (xs.map scA)]], b1]) := by
  refine ct_intro Tryz.func37 rfl Tryz.ntmps37 hB37 (by simp) fun h ρ w => go (N := 8) Tryz.ntmps37 300 ?_
  simp only [go_sem, Nat.reduceAdd, Nat.reduceMul, Nat.reduceSub, Nat.reduceBEq, Nat.reduceLT, Nat.reduceLeDiff, reduceIte, reduceCtorEq, Int.reduceToNat, Int.reduceLE, Int.reduceLT, Int.reduceNe, Int.reduceMul, Int.reduceAdd, Int.reduceSub, Int.reduceDiv, Int.reduceMod, Int.reduceEq, Int.reduceGE, Int.reduceGT, Int.reduceNeg, Int.reduceBEq, Int.reduceBNe, Nat.reduceEqDiff]
  refine acall (anyScene_ct _ b1 rfl h2 nm xs hl hp) (N := 8) Tryz.ntmps37 rfl ?_
  rintro _ _ ⟨rfl, rfl⟩
  refine go (N := 8) Tryz.ntmps37 300 ?_
  simp only [go_sem, Nat.reduceAdd, Nat.reduceMul, Nat.reduceSub, Nat.reduceBEq, Nat.reduceLT, Nat.reduceLeDiff, reduceIte, reduceCtorEq, Int.reduceToNat, Int.reduceLE, Int.reduceLT, Int.reduceNe, Int.reduceMul, Int.reduceAdd, Int.reduceSub, Int.reduceDiv, Int.reduceMod, Int.reduceEq, Int.reduceGE, Int.reduceGT, Int.reduceNeg, Int.reduceBEq, Int.reduceBNe, Nat.reduceEqDiff]
  refine ARet.shift (Shift.low 2 (e' := [(3, .bool (hasL xs nm))]) (by simp) (by simp) ?_ ?_) (aret [3] rfl ⟨rfl, rfl⟩)
  · simp only [List.take_succ_cons, List.take_zero, List.all_cons, List.all_nil, h1, Bool.and_self, Bool.true_and, Bool.and_true]
    rfl
  · simp only [wkl, lowV, lowC, Av.get, go_sem, Nat.reduceAdd, Nat.reduceMul, Nat.reduceSub, Nat.reduceBEq, Nat.reduceLT, Nat.reduceLeDiff, reduceIte, reduceCtorEq, Int.reduceToNat, Int.reduceLE, Int.reduceLT, Int.reduceNe, Int.reduceMul, Int.reduceAdd, Int.reduceSub, Int.reduceDiv, Int.reduceMod, Int.reduceEq, Int.reduceGE, Int.reduceGT, Int.reduceNeg, Int.reduceBEq, Int.reduceBNe, Nat.reduceEqDiff]
end Go.Proofs.YtpjbbpilgfihbaaGreatDoor
/- Sides. Own work of this seat. -/
set_option maxRecDepth 100000
set_option linter.unusedSimpArgs false
set_option linter.unusedVariables false
namespace Go.Proofs.YtpjbbpilgfihbaaGreatDoor
open Go Go.Av Go.RowKit
attribute [local go_sem ↓] br_true br_false dbr_true dbr_false dbri_true dbri_false dbrg_true dbrg_false
attribute [local go_sem] run cont br dbr dx dxc dgrd dyld dres dcall calm fieldPlace? allHas step1 opN grdN resN condN exitN stopN exitIt dOk xop xbin xint xarith xstr xbool xpick xnot xneg xextract xpart xpartOk xindex xfieldF fieldD xnew xbox xalloc xfieldAddr xptrAddIf xindexAddr xloadC xload putCells reElem xstoreB xstore xconv xtext xlen xlen2 xcall xfill xbuild cut rep xbuildSlice xbuildSliceD isRow elemD isU8 ev evs evp Go.Av.put Go.Av.get ofConst yldD yldV notBool_undef args0 cellsOf cond_true cond_false decide_true decide_false decide_eq_true_eq decide_eq_false_iff_not List.getElem?_cons_zero List.getElem?_cons_succ List.getElem?_nil List.getD_cons_zero List.getD_cons_succ List.getD_nil List.set_cons_zero List.set_cons_succ List.length_cons List.length_nil List.cons_append List.nil_append List.append_nil List.all_cons List.all_nil List.map_cons List.map_nil List.take_succ_cons List.take_zero List.drop_succ_cons List.drop_zero Bool.and_true Bool.true_and Bool.and_self Bool.and_false Bool.false_and one Go.Av.frozen beq_self_eq_true true_and and_true forall_const false_implies implies_true and_self Option.map_some Option.map_none Nat.zero_add Nat.add_zero Nat.zero_mul Nat.mul_one Nat.one_mul Int.toNat_zero ne_eq not_false_eq_true not_true_eq_false Bool.true_eq_false Bool.false_eq_true List.toList_toArray inr Go.Av.byteOf isByte decide_eq_decide Bool.not_true Bool.not_false Bool.not_eq_true' Bool.or_true Bool.true_or Bool.or_false Bool.false_or ge_iff_le gt_iff_lt and_assoc Bool.decide_eq_true beq_iff_eq beq_eq_false_iff_ne bne_iff_ne bne_self_eq_false if_true if_false Bool.and_eq_true Bool.or_eq_true Bool.and_eq_false_imp Bool.or_eq_false_iff Bool.not_eq_false' has Option.isSome_some Option.isSome_none Int.toNat_natCast Int.cast_ofNat_Int List.length_append xapp2 xapp xappS xappD xappB notInt srcOf srcB byteAV splice' xcut xcutS xcutF xcutB xcutN xcut0 cutL loOf hiOf evo xmake zelem xmax xcopy2 xcopyS xcopyB xnil xcut3 ixOf xclear2 xclearB List.getElem?_toArray xbin2 xnileq xempty xmkmap xmput xmputB xmputF isKey keyEq mfind xbin3 xeqs xeqop eqFs bothB leafEq xlook xlookB xlookF xbytes beq_c_n beq_n_c bne_c_n bne_n_c one_nil dxi dxic dbri rix dck reader blind opOk refOk Go.Op.operands Go.Call.operands List.contains_cons List.contains_nil dxg dxgc dbrg pck putD List.lookup_cons List.lookup_nil ts2 tb2 zl2 za2 Tryz.underlying2 ts3 tb3 zl3 za3 Tryz.underlying3 ts4 tb4 zl4 za4 Tryz.underlying4 ts5 tb5 zl5 za5 Tryz.underlying5 ts6 tb6 zl6 za6 Tryz.underlying6 ts7 tb7 za7 Tryz.underlying7 ts8 tb8 za8 Tryz.underlying8 ts9 tb9 zl9 za9 Tryz.underlying9 ts10 tb10 zl10 za10 Tryz.underlying10 ts11 tb11 zl11 za11 Tryz.underlying11 ts12 tb12 zl12 za12 Tryz.underlying12 ts13 tb13 za13 Tryz.underlying13 ts14 tb14 za14 Tryz.underlying14 ts18 tb18 za18 Tryz.underlying18 ts19 tb19 za19 Tryz.underlying19 ts21 tb21 zl21 za21 Tryz.underlying21 ts22 tb22 zl22 za22 Tryz.underlying22 ts24 tb24 za24 Tryz.underlying24 ts25 tb25 za25 Tryz.underlying25 ts27 tb27 zl27 za27 Tryz.underlying27 ts35 tb35 zl35 za35 Tryz.underlying35 ts36 tb36 za36 Tryz.underlying36 ts37 tb37 za37 Tryz.underlying37 ts39 tb39 zl39 za39 Tryz.underlying39 ts41 tb41 za41 Tryz.underlying41 ts42 tb42 za42 Tryz.underlying42 ts63 tb63 zl63 za63 Tryz.underlying63 ts64 tb64 zl64 za64 Tryz.underlying64 ts65 tb65 za65 Tryz.underlying65 ts66 tb66 za66 Tryz.underlying66 ts67 tb67 zl67 za67 Tryz.underlying67 ts69 tb69 za69 Tryz.underlying69 ts70 tb70 za70 Tryz.underlying70 ts73 tb73 za73 Tryz.underlying73 ts74 tb74 za74 Tryz.underlying74 ts75 tb75 zl75 za75 Tryz.underlying75 ts82 tb82 zl82 za82 Tryz.underlying82 ts96 tb96 za96 Tryz.underlying96 ts97 tb97 za97 Tryz.underlying97 ts103 tb103 za103 Tryz.underlying103 ts104 tb104 za104 Tryz.underlying104 ts109 tb109 zl109 za109 Tryz.underlying109 ts116 tb116 zl116 za116 Tryz.underlying116 ts117 tb117 za117 Tryz.underlying117 ts118 tb118 za118 Tryz.underlying118 ts120 tb120 zl120 za120 Tryz.underlying120 ts124 tb124 zl124 za124 Tryz.underlying124 ts126 tb126 za126 Tryz.underlying126 ts128 tb128 zl128 za128 Tryz.underlying128 ts130 tb130 za130 Tryz.underlying130 ts131 tb131 za131 Tryz.underlying131 ts153 tb153 zl153 za153 Tryz.underlying153 ts167 tb167 zl167 za167 Tryz.underlying167 ts171 tb171 zl171 za171 Tryz.underlying171 ts177 tb177 zl177 za177 Tryz.underlying177 ts183 tb183 zl183 za183 Tryz.underlying183 ts189 tb189 zl189 za189 Tryz.underlying189 ts191 tb191 zl191 za191 Tryz.underlying191 ts195 tb195 za195 Tryz.underlying195 ts196 tb196 za196 Tryz.underlying196 ts198 tb198 zl198 za198 Tryz.underlying198 ts203 tb203 Tryz.underlying203 ts209 tb209 za209 Tryz.underlying209 ts210 tb210 za210 Tryz.underlying210 ts211 tb211 Tryz.underlying211 ts216 tb216 za216 Tryz.underlying216 ts217 tb217 za217 Tryz.underlying217 ts220 tb220 Tryz.underlying220 ts225 tb225 Tryz.underlying225 ts226 tb226 Tryz.underlying226 ts227 tb227 za227 Tryz.underlying227 ts228 tb228 za228 Tryz.underlying228 ts232 tb232 zl232 za232 Tryz.underlying232 ts233 tb233 zl233 za233 Tryz.underlying233 ts235 tb235 zl235 za235 Tryz.underlying235 ts236 tb236 zl236 za236 Tryz.underlying236 ts237 tb237 za237 Tryz.underlying237 ts238 tb238 za238 Tryz.underlying238

theorem run_all : ∀ (ps : List Pa) (l e : Int), runL l ps = some e → ∀ p ∈ ps, paraOk p = true
  | [], _, _, _, p, hp => by simp at hp
  | a :: r, l, e, h, p, hp => by
    simp only [runL] at h
    split at h
    · rename_i hc
      simp only [Bool.and_eq_true] at hc
      rcases List.mem_cons.1 hp with rfl | hp
      · exact hc.1
      · exact run_all r _ _ h p hp
    · cases h
theorem run_head {ps : List Pa} {e : Int} (h : runL 0 ps = some e) : ∀ p, ps.head? = some p → joins p = false := by
  intro p hp
  cases ps with
  | nil => simp at hp
  | cons a r =>
    simp only [List.head?_cons, Option.some.injEq] at hp
    subst hp
    simp only [runL] at h
    split at h
    · rename_i hc
      simp only [Bool.and_eq_true, followsL] at hc
      simp only [joins, Bool.or_eq_false_iff]
      have hc2 := hc.2
      constructor
      · cases q : a.kind == 3 with
        | false => rfl
        | true => rw [q] at hc2; simp at hc2
      · cases q : a.kind == 4 with
        | false => rfl
        | true =>
          cases q3 : a.kind == 3 with
          | true => rw [q3] at hc2; simp at hc2
          | false => rw [q3, q] at hc2; simp at hc2
    · cases h
theorem para_len {p : Pa} (h : paraOk p = true) : p.text.length ≤ 2000 := by
  simp only [paraOk, Bool.and_eq_true, decide_eq_true_eq] at h
  exact h.2.2.2.2.1
theorem ok_at : ∀ (l : List Sc) (acc : List (List UInt8)) (f : Bool), okFrom acc f l → ∀ x ∈ l, SceneOk x
  | [], _, _, _, x, hx => by simp at hx
  | a :: r, acc, f, h, x, hx => by
    rcases List.mem_cons.1 hx with rfl | hx
    · exact h.2.2.2.2.1
    · exact ok_at r _ _ h.2.2.2.2.2 x hx
theorem sum_ge : ∀ (l : List Sc) (x : Sc), x ∈ l → x.paras.length ≤ paraSum l
  | [], x, h => by simp at h
  | a :: r, x, h => by
    simp only [paraSum, List.map_cons, List.sum_cons]
    rcases List.mem_cons.1 h with rfl | h
    · omega
    · have := sum_ge r x h
      simp only [paraSum] at this
      omega

def x0 : Sc := ⟨[], 0, [], 0, []⟩
end Go.Proofs.YtpjbbpilgfihbaaGreatDoor
/- The groups of a scene's paragraphs, told by the references. Own work of this seat. -/
set_option maxRecDepth 100000
set_option linter.unusedSimpArgs false
set_option linter.unusedVariables false
namespace Go.Proofs.YtpjbbpilgfihbaaGreatDoor
open Go Go.Av Go.RowKit
attribute [local go_sem ↓] br_true br_false dbr_true dbr_false dbri_true dbri_false dbrg_true dbrg_false
attribute [local go_sem] run cont br dbr dx dxc dgrd dyld dres dcall calm fieldPlace? allHas step1 opN grdN resN condN exitN stopN exitIt dOk xop xbin xint xarith xstr xbool xpick xnot xneg xextract xpart xpartOk xindex xfieldF fieldD xnew xbox xalloc xfieldAddr xptrAddIf xindexAddr xloadC xload putCells reElem xstoreB xstore xconv xtext xlen xlen2 xcall xfill xbuild cut rep xbuildSlice xbuildSliceD isRow elemD isU8 ev evs evp Go.Av.put Go.Av.get ofConst yldD yldV notBool_undef args0 cellsOf cond_true cond_false decide_true decide_false decide_eq_true_eq decide_eq_false_iff_not List.getElem?_cons_zero List.getElem?_cons_succ List.getElem?_nil List.getD_cons_zero List.getD_cons_succ List.getD_nil List.set_cons_zero List.set_cons_succ List.length_cons List.length_nil List.cons_append List.nil_append List.append_nil List.all_cons List.all_nil List.map_cons List.map_nil List.take_succ_cons List.take_zero List.drop_succ_cons List.drop_zero Bool.and_true Bool.true_and Bool.and_self Bool.and_false Bool.false_and one Go.Av.frozen beq_self_eq_true true_and and_true forall_const false_implies implies_true and_self Option.map_some Option.map_none Nat.zero_add Nat.add_zero Nat.zero_mul Nat.mul_one Nat.one_mul Int.toNat_zero ne_eq not_false_eq_true not_true_eq_false Bool.true_eq_false Bool.false_eq_true List.toList_toArray inr Go.Av.byteOf isByte decide_eq_decide Bool.not_true Bool.not_false Bool.not_eq_true' Bool.or_true Bool.true_or Bool.or_false Bool.false_or ge_iff_le gt_iff_lt and_assoc Bool.decide_eq_true beq_iff_eq beq_eq_false_iff_ne bne_iff_ne bne_self_eq_false if_true if_false Bool.and_eq_true Bool.or_eq_true Bool.and_eq_false_imp Bool.or_eq_false_iff Bool.not_eq_false' has Option.isSome_some Option.isSome_none Int.toNat_natCast Int.cast_ofNat_Int List.length_append xapp2 xapp xappS xappD xappB notInt srcOf srcB byteAV splice' xcut xcutS xcutF xcutB xcutN xcut0 cutL loOf hiOf evo xmake zelem xmax xcopy2 xcopyS xcopyB xnil xcut3 ixOf xclear2 xclearB List.getElem?_toArray xbin2 xnileq xempty xmkmap xmput xmputB xmputF isKey keyEq mfind xbin3 xeqs xeqop eqFs bothB leafEq xlook xlookB xlookF xbytes beq_c_n beq_n_c bne_c_n bne_n_c one_nil dxi dxic dbri rix dck reader blind opOk refOk Go.Op.operands Go.Call.operands List.contains_cons List.contains_nil dxg dxgc dbrg pck putD List.lookup_cons List.lookup_nil ts2 tb2 zl2 za2 Tryz.underlying2 ts3 tb3 zl3 za3 Tryz.underlying3 ts4 tb4 zl4 za4 Tryz.underlying4 ts5 tb5 zl5 za5 Tryz.underlying5 ts6 tb6 zl6 za6 Tryz.underlying6 ts7 tb7 za7 Tryz.underlying7 ts8 tb8 za8 Tryz.underlying8 ts9 tb9 zl9 za9 Tryz.underlying9 ts10 tb10 zl10 za10 Tryz.underlying10 ts11 tb11 zl11 za11 Tryz.underlying11 ts12 tb12 zl12 za12 Tryz.underlying12 ts13 tb13 za13 Tryz.underlying13 ts14 tb14 za14 Tryz.underlying14 ts18 tb18 za18 Tryz.underlying18 ts19 tb19 za19 Tryz.underlying19 ts21 tb21 zl21 za21 Tryz.underlying21 ts22 tb22 zl22 za22 Tryz.underlying22 ts24 tb24 za24 Tryz.underlying24 ts25 tb25 za25 Tryz.underlying25 ts27 tb27 zl27 za27 Tryz.underlying27 ts35 tb35 zl35 za35 Tryz.underlying35 ts36 tb36 za36 Tryz.underlying36 ts37 tb37 za37 Tryz.underlying37 ts39 tb39 zl39 za39 Tryz.underlying39 ts41 tb41 za41 Tryz.underlying41 ts42 tb42 za42 Tryz.underlying42 ts63 tb63 zl63 za63 Tryz.underlying63 ts64 tb64 zl64 za64 Tryz.underlying64 ts65 tb65 za65 Tryz.underlying65 ts66 tb66 za66 Tryz.underlying66 ts67 tb67 zl67 za67 Tryz.underlying67 ts69 tb69 za69 Tryz.underlying69 ts70 tb70 za70 Tryz.underlying70 ts73 tb73 za73 Tryz.underlying73 ts74 tb74 za74 Tryz.underlying74 ts75 tb75 zl75 za75 Tryz.underlying75 ts82 tb82 zl82 za82 Tryz.underlying82 ts96 tb96 za96 Tryz.underlying96 ts97 tb97 za97 Tryz.underlying97 ts103 tb103 za103 Tryz.underlying103 ts104 tb104 za104 Tryz.underlying104 ts109 tb109 zl109 za109 Tryz.underlying109 ts116 tb116 zl116 za116 Tryz.underlying116 ts117 tb117 za117 Tryz.underlying117 ts118 tb118 za118 Tryz.underlying118 ts120 tb120 zl120 za120 Tryz.underlying120 ts124 tb124 zl124 za124 Tryz.underlying124 ts126 tb126 za126 Tryz.underlying126 ts128 tb128 zl128 za128 Tryz.underlying128 ts130 tb130 za130 Tryz.underlying130 ts131 tb131 za131 Tryz.underlying131 ts153 tb153 zl153 za153 Tryz.underlying153 ts167 tb167 zl167 za167 Tryz.underlying167 ts171 tb171 zl171 za171 Tryz.underlying171 ts177 tb177 zl177 za177 Tryz.underlying177 ts183 tb183 zl183 za183 Tryz.underlying183 ts189 tb189 zl189 za189 Tryz.underlying189 ts191 tb191 zl191 za191 Tryz.underlying191 ts195 tb195 za195 Tryz.underlying195 ts196 tb196 za196 Tryz.underlying196 ts198 tb198 zl198 za198 Tryz.underlying198 ts203 tb203 Tryz.underlying203 ts209 tb209 za209 Tryz.underlying209 ts210 tb210 za210 Tryz.underlying210 ts211 tb211 Tryz.underlying211 ts216 tb216 za216 Tryz.underlying216 ts217 tb217 za217 Tryz.underlying217 ts220 tb220 Tryz.underlying220 ts225 tb225 Tryz.underlying225 ts226 tb226 Tryz.underlying226 ts227 tb227 za227 Tryz.underlying227 ts228 tb228 za228 Tryz.underlying228 ts232 tb232 zl232 za232 Tryz.underlying232 ts233 tb233 zl233 za233 Tryz.underlying233 ts235 tb235 zl235 za235 Tryz.underlying235 ts236 tb236 zl236 za236 Tryz.underlying236 ts237 tb237 za237 Tryz.underlying237 ts238 tb238 za238 Tryz.underlying238

structure Gp where
  lo : Nat
  hi : Nat
  name : List UInt8
def gpA (g : Gp) : AV := .agg [.int .i64 g.lo, .int .i64 g.hi, .str g.name]
def gp0 : Gp := ⟨0, 0, []⟩
/-- what groups of the first 'i' paragraphs are -/
structure GpOk (ps : List Pa) (i : Nat) (gs : List Gp) : Prop where
  len : gs.length ≤ i
  ne : 0 < i → gs ≠ []
  all : ∀ g ∈ gs, g.lo ≤ g.hi ∧ g.hi ≤ i ∧ (g.name = [] ∨ ∃ p ∈ ps, p.kind = 2 ∧ p.text = g.name)
theorem frozen_gps (l : List Gp) : (flat (l.map gpA)).all Av.frozen = true := by
  induction l with
  | nil => rfl
  | cons x l ih => simpa [flat, cellsOf, gpA, Av.frozen] using ih
theorem low_gps (n : Nat) (l : List Gp) : lowB n (.arr 3 (l.map gpA)) = true := low_all (frozen_gps l)
theorem gps_last {gs : List Gp} (h : gs ≠ []) : gs.getD (gs.length - 1) gp0 ∈ gs := by
  have : gs.length - 1 < gs.length := by
    cases gs with
    | nil => exact absurd rfl h
    | cons a r => simp
  simp [List.getD, this]
theorem GpOk.push {ps : List Pa} {i : Nat} {gs : List Gp} (h : GpOk ps i gs) (g : Gp) (h1 : g.lo ≤ g.hi) (h2 : g.hi ≤ i + 1) (h3 : g.name = [] ∨ ∃ p ∈ ps, p.kind = 2 ∧ p.text = g.name) : GpOk ps (i + 1) (gs ++ [g]) := by
  have hl := h.len
  refine ⟨by simp; omega, fun _ => by simp, fun x hx => ?_⟩
  rcases List.mem_append.1 hx with hx | hx
  · have := h.all x hx
    exact ⟨this.1, by omega, this.2.2⟩
  · rw [List.mem_singleton.1 hx]
    exact ⟨h1, h2, h3⟩
theorem GpOk.grow {ps : List Pa} {i : Nat} {gs : List Gp} (h : GpOk ps i gs) (hne : gs ≠ []) : GpOk ps (i + 1) (gs.set (gs.length - 1) { gs.getD (gs.length - 1) gp0 with hi := i + 1 }) := by
  have hl := h.len
  refine ⟨by simp; omega, fun _ => by simpa using hne, fun x hx => ?_⟩
  rcases List.mem_or_eq_of_mem_set hx with hx | rfl
  · have := h.all x hx
    exact ⟨this.1, by omega, this.2.2⟩
  · have := h.all _ (gps_last hne)
    exact ⟨by simp only; omega, by simp, this.2.2⟩
set_option maxHeartbeats 4000000 in
theorem groupsOf_pc (x : Sc) (hx : SceneOk x) : Pc Tryz.prog 31 [scA x] (fun r => ∃ gs : List Gp, r = .fz 3 (gs.map gpA) ∧ GpOk x.paras x.paras.length gs) := by
  obtain ⟨e, hrun, _, _⟩ := hx.run
  have hmany := hx.many
  have hh := run_head hrun
  obtain ⟨no, pl, st, tm, ps⟩ := x
  simp only at hrun hmany hh
  simp only [scA]
  refine pc_intro (ct_intro Tryz.func31 rfl Tryz.ntmps31 hB31 (by simp) fun h ρ w => goF (N := 47) Tryz.ntmps31 300 ?_)
  simp only [go_sem, Nat.reduceAdd, Nat.reduceMul, Nat.reduceSub, Nat.reduceBEq, Nat.reduceLT, Nat.reduceLeDiff, reduceIte, reduceCtorEq, Int.reduceToNat, Int.reduceLE, Int.reduceLT, Int.reduceNe, Int.reduceMul, Int.reduceAdd, Int.reduceSub, Int.reduceDiv, Int.reduceMod, Int.reduceEq, Int.reduceGE, Int.reduceGT, Int.reduceNeg, Int.reduceBEq, Int.reduceBNe, Nat.reduceEqDiff, List.length_map]
  refine aloop (ι := Nat × List Gp) (fun y => ps.length - y.1)
    (fun y => [(9, .int .i64 y.1), (8, .int .i64 ps.length), (7, .fz 2 (ps.map paA)), (3, .sl 1 0 y.2.length y.2.length)])
    (fun y => [.arr 5 [.agg [.str no, .int .i64 pl, .str st, .int .i64 tm, .fz 2 (ps.map paA)]], .arr 3 (y.2.map gpA)])
    (fun y => y.1 ≤ ps.length ∧ GpOk ps y.1 y.2) (0, []) ⟨by simp, by simp, by simp, by simp⟩ ?_ ?_
  · refine Shift.trans (Shift.nilsl 3 3 rfl) (Shift.weak ?_)
    simp only [wk, go_sem, Nat.reduceAdd, Nat.reduceMul, Nat.reduceSub, Nat.reduceBEq, Nat.reduceLT, Nat.reduceLeDiff, reduceIte, reduceCtorEq, Int.reduceToNat, Int.reduceLE, Int.reduceLT, Int.reduceNe, Int.reduceMul, Int.reduceAdd, Int.reduceSub, Int.reduceDiv, Int.reduceMod, Int.reduceEq, Int.reduceGE, Int.reduceGT, Int.reduceNeg, Int.reduceBEq, Int.reduceBNe, Nat.reduceEqDiff]
  · rintro ⟨i, gs⟩ ⟨g1, hG⟩ J hJ
    simp only at g1 hJ hG ⊢
    by_cases gi : i < ps.length
    · have di : decide ((i : Int) < (ps.length : Int)) = true := by simp; omega
      have hg' : List.getD (List.map paA ps) i .any = .agg [.int .i64 ps[i].kind, .str ps[i].text] := by simp [List.getD, gi, paA]
      have hlen := hG.len
      have hpos : 0 < i → 0 < gs.length := fun h => by
        have := hG.ne h
        cases gs with
        | nil => exact absurd rfl this
        | cons a r => simp
      have hlast : 0 < gs.length → List.getD (List.map gpA gs) ((gs.length : Int) - 1).toNat .any = .agg [.int .i64 (gs.getD (gs.length - 1) gp0).lo, .int .i64 (gs.getD (gs.length - 1) gp0).hi, .str (gs.getD (gs.length - 1) gp0).name] := fun h => by
        rw [show ((gs.length : Int) - 1).toNat = gs.length - 1 by omega]
        simp [List.getD, show gs.length - 1 < gs.length by omega, gpA]
      have hset : (List.map gpA gs).set ((gs.length : Int) - 1).toNat (.agg [.int .i64 (gs.getD (gs.length - 1) gp0).lo, .int .i64 ((i : Int) + 1), .str (gs.getD (gs.length - 1) gp0).name]) = List.map gpA (gs.set (gs.length - 1) { gs.getD (gs.length - 1) gp0 with hi := i + 1 }) := by
        by_cases h0 : gs.length = 0
        · cases gs with
          | nil => rfl
          | cons a r => simp at h0
        · rw [show ((gs.length : Int) - 1).toNat = gs.length - 1 by omega]
          simp [gpA, List.map_set]
      cases k2 : ps[i].kind == 2 with
      | true =>
        refine goF (N := 47) Tryz.ntmps31 300 ?_
        simp only [go_sem, Nat.reduceAdd, Nat.reduceMul, Nat.reduceSub, Nat.reduceBEq, Nat.reduceLT, Nat.reduceLeDiff, reduceIte, reduceCtorEq, Int.reduceToNat, Int.reduceLE, Int.reduceLT, Int.reduceNe, Int.reduceMul, Int.reduceAdd, Int.reduceSub, Int.reduceDiv, Int.reduceMod, Int.reduceEq, Int.reduceGE, Int.reduceGT, Int.reduceNeg, Int.reduceBEq, Int.reduceBNe, Nat.reduceEqDiff, di, hg', k2, List.length_map]
        repeat refine And.intro (by first | omega | exact .inl trivial | rfl | (simp; done) | (simp; omega)) ?_
        rw [show List.map gpA gs ++ [.agg [.int .i64 (i : Int), .int .i64 ((i : Int) + 1), .str ps[i].text]] = List.map gpA (gs ++ [⟨i, i + 1, ps[i].text⟩]) by simp [gpA], show (i : Int) + 1 = ((i + 1 : Nat) : Int) by omega]
        have fin := hJ (i + 1, gs ++ [⟨i, i + 1, ps[i].text⟩]) ⟨by simp only; omega, hG.push _ (Nat.le_succ i) (Nat.le_refl (i + 1)) (.inr ⟨ps[i], List.getElem_mem gi, by simpa using k2, rfl⟩)⟩ (by simp only; omega)
        simp only [List.length_append, List.length_cons, List.length_nil, Nat.zero_add] at fin
        refine ainv fin (Shift.low 2 (by simp) (by simp) ?_ ?_)
        · simp only [List.take_succ_cons, List.take_zero, List.all_cons, List.all_nil, lowB, flat, cellsOf, lowC, Av.frozen, List.append_nil, List.cons_append, List.nil_append, ↓low_gps, Bool.and_self]
        · simp only [wkl, lowV, lowC, Av.get, go_sem, Nat.reduceAdd, Nat.reduceMul, Nat.reduceSub, Nat.reduceBEq, Nat.reduceLT, Nat.reduceLeDiff, reduceIte, reduceCtorEq, Int.reduceToNat, Int.reduceLE, Int.reduceLT, Int.reduceNe, Int.reduceMul, Int.reduceAdd, Int.reduceSub, Int.reduceDiv, Int.reduceMod, Int.reduceEq, Int.reduceGE, Int.reduceGT, Int.reduceNeg, Int.reduceBEq, Int.reduceBNe, Nat.reduceEqDiff]
      | false =>
        cases hj : joins ps[i] with
        | true =>
          have hi0 : 0 < i := by
            rcases Nat.eq_zero_or_pos i with h | h
            · subst h
              have := hh ps[0] (by rw [List.head?_eq_getElem?, List.getElem?_eq_getElem gi])
              rw [this] at hj; cases hj
            · exact h
          have hgl := hpos hi0
          have hne := hG.ne hi0
          have hlast := hlast hgl
          have hlen := hG.len
          have hk : (ps[i].kind == 3) = true ∨ ((ps[i].kind == 3) = false ∧ (ps[i].kind == 4) = true) := by
            simp only [joins, Bool.or_eq_true] at hj
            cases h : ps[i].kind == 3 with
            | true => exact .inl rfl
            | false => rw [h] at hj; exact .inr ⟨rfl, by simpa using hj⟩
          rcases hk with hk | ⟨hk, hk4⟩
          · refine goF (N := 47) Tryz.ntmps31 300 ?_
            simp only [go_sem, Nat.reduceAdd, Nat.reduceMul, Nat.reduceSub, Nat.reduceBEq, Nat.reduceLT, Nat.reduceLeDiff, reduceIte, reduceCtorEq, Int.reduceToNat, Int.reduceLE, Int.reduceLT, Int.reduceNe, Int.reduceMul, Int.reduceAdd, Int.reduceSub, Int.reduceDiv, Int.reduceMod, Int.reduceEq, Int.reduceGE, Int.reduceGT, Int.reduceNeg, Int.reduceBEq, Int.reduceBNe, Nat.reduceEqDiff, di, hg', k2, hk, hlast, List.length_map]
            repeat refine And.intro (by first | omega | exact .inl trivial | rfl | (simp; done) | (simp; omega)) ?_
            rw [hset, show (i : Int) + 1 = ((i + 1 : Nat) : Int) by omega]
            have fin := hJ (i + 1, gs.set (gs.length - 1) { gs.getD (gs.length - 1) gp0 with hi := i + 1 }) ⟨by simp only; omega, hG.grow hne⟩ (by simp only; omega)
            simp only [List.length_set] at fin
            refine ainv fin (Shift.low 2 (by simp) (by simp) ?_ ?_)
            · simp only [List.take_succ_cons, List.take_zero, List.all_cons, List.all_nil, lowB, flat, cellsOf, lowC, Av.frozen, List.append_nil, List.cons_append, List.nil_append, ↓low_gps, Bool.and_self]
            · simp only [wkl, lowV, lowC, Av.get, go_sem, Nat.reduceAdd, Nat.reduceMul, Nat.reduceSub, Nat.reduceBEq, Nat.reduceLT, Nat.reduceLeDiff, reduceIte, reduceCtorEq, Int.reduceToNat, Int.reduceLE, Int.reduceLT, Int.reduceNe, Int.reduceMul, Int.reduceAdd, Int.reduceSub, Int.reduceDiv, Int.reduceMod, Int.reduceEq, Int.reduceGE, Int.reduceGT, Int.reduceNeg, Int.reduceBEq, Int.reduceBNe, Nat.reduceEqDiff]
          · refine goF (N := 47) Tryz.ntmps31 300 ?_
            simp only [go_sem, Nat.reduceAdd, Nat.reduceMul, Nat.reduceSub, Nat.reduceBEq, Nat.reduceLT, Nat.reduceLeDiff, reduceIte, reduceCtorEq, Int.reduceToNat, Int.reduceLE, Int.reduceLT, Int.reduceNe, Int.reduceMul, Int.reduceAdd, Int.reduceSub, Int.reduceDiv, Int.reduceMod, Int.reduceEq, Int.reduceGE, Int.reduceGT, Int.reduceNeg, Int.reduceBEq, Int.reduceBNe, Nat.reduceEqDiff, di, hg', k2, hk, hk4, hlast, List.length_map]
            repeat refine And.intro (by first | omega | exact .inl trivial | rfl | (simp; done) | (simp; omega)) ?_
            rw [hset, show (i : Int) + 1 = ((i + 1 : Nat) : Int) by omega]
            have fin := hJ (i + 1, gs.set (gs.length - 1) { gs.getD (gs.length - 1) gp0 with hi := i + 1 }) ⟨by simp only; omega, hG.grow hne⟩ (by simp only; omega)
            simp only [List.length_set] at fin
            refine ainv fin (Shift.low 2 (by simp) (by simp) ?_ ?_)
            · simp only [List.take_succ_cons, List.take_zero, List.all_cons, List.all_nil, lowB, flat, cellsOf, lowC, Av.frozen, List.append_nil, List.cons_append, List.nil_append, ↓low_gps, Bool.and_self]
            · simp only [wkl, lowV, lowC, Av.get, go_sem, Nat.reduceAdd, Nat.reduceMul, Nat.reduceSub, Nat.reduceBEq, Nat.reduceLT, Nat.reduceLeDiff, reduceIte, reduceCtorEq, Int.reduceToNat, Int.reduceLE, Int.reduceLT, Int.reduceNe, Int.reduceMul, Int.reduceAdd, Int.reduceSub, Int.reduceDiv, Int.reduceMod, Int.reduceEq, Int.reduceGE, Int.reduceGT, Int.reduceNeg, Int.reduceBEq, Int.reduceBNe, Nat.reduceEqDiff]
        | false =>
          have hk : (ps[i].kind == 3) = false ∧ (ps[i].kind == 4) = false := by
            simpa [joins] using hj
          refine goF (N := 47) Tryz.ntmps31 300 ?_
          simp only [go_sem, Nat.reduceAdd, Nat.reduceMul, Nat.reduceSub, Nat.reduceBEq, Nat.reduceLT, Nat.reduceLeDiff, reduceIte, reduceCtorEq, Int.reduceToNat, Int.reduceLE, Int.reduceLT, Int.reduceNe, Int.reduceMul, Int.reduceAdd, Int.reduceSub, Int.reduceDiv, Int.reduceMod, Int.reduceEq, Int.reduceGE, Int.reduceGT, Int.reduceNeg, Int.reduceBEq, Int.reduceBNe, Nat.reduceEqDiff, di, hg', k2, hk.1, hk.2, List.length_map]
          repeat refine And.intro (by first | omega | exact .inl trivial | rfl | (simp; done) | (simp; omega)) ?_
          rw [show List.map gpA gs ++ [.agg [.int .i64 (i : Int), .int .i64 ((i : Int) + 1), .str []]] = List.map gpA (gs ++ [⟨i, i + 1, []⟩]) by simp [gpA], show (i : Int) + 1 = ((i + 1 : Nat) : Int) by omega]
          have fin := hJ (i + 1, gs ++ [⟨i, i + 1, []⟩]) ⟨by simp only; omega, hG.push _ (Nat.le_succ i) (Nat.le_refl (i + 1)) (.inl rfl)⟩ (by simp only; omega)
          simp only [List.length_append, List.length_cons, List.length_nil, Nat.zero_add] at fin
          refine ainv fin (Shift.low 2 (by simp) (by simp) ?_ ?_)
          · simp only [List.take_succ_cons, List.take_zero, List.all_cons, List.all_nil, lowB, flat, cellsOf, lowC, Av.frozen, List.append_nil, List.cons_append, List.nil_append, ↓low_gps, Bool.and_self]
          · simp only [wkl, lowV, lowC, Av.get, go_sem, Nat.reduceAdd, Nat.reduceMul, Nat.reduceSub, Nat.reduceBEq, Nat.reduceLT, Nat.reduceLeDiff, reduceIte, reduceCtorEq, Int.reduceToNat, Int.reduceLE, Int.reduceLT, Int.reduceNe, Int.reduceMul, Int.reduceAdd, Int.reduceSub, Int.reduceDiv, Int.reduceMod, Int.reduceEq, Int.reduceGE, Int.reduceGT, Int.reduceNeg, Int.reduceBEq, Int.reduceBNe, Nat.reduceEqDiff]
    · have di : decide ((i : Int) < (ps.length : Int)) = false := by simp; omega
      have hi : i = ps.length := by omega
      subst hi
      refine goF (N := 47) Tryz.ntmps31 300 ?_
      simp only [go_sem, Nat.reduceAdd, Nat.reduceMul, Nat.reduceSub, Nat.reduceBEq, Nat.reduceLT, Nat.reduceLeDiff, reduceIte, reduceCtorEq, Int.reduceToNat, Int.reduceLE, Int.reduceLT, Int.reduceNe, Int.reduceMul, Int.reduceAdd, Int.reduceSub, Int.reduceDiv, Int.reduceMod, Int.reduceEq, Int.reduceGE, Int.reduceGT, Int.reduceNeg, Int.reduceBEq, Int.reduceBNe, Nat.reduceEqDiff, di]
      exact ARet.shift (Shift.freeze 2 (id := 1) rfl rfl (by simp) (Nat.le_refl _) (frozen_gps _)) (aret [2] rfl ⟨⟨gs, by simp only [resV, Av.get, put, go_sem, Nat.reduceAdd, Nat.reduceMul, Nat.reduceSub, Nat.reduceBEq, Nat.reduceLT, Nat.reduceLeDiff, reduceIte, reduceCtorEq, Int.reduceToNat, Int.reduceLE, Int.reduceLT, Int.reduceNe, Int.reduceMul, Int.reduceAdd, Int.reduceSub, Int.reduceDiv, Int.reduceMod, Int.reduceEq, Int.reduceGE, Int.reduceGT, Int.reduceNeg, Int.reduceBEq, Int.reduceBNe, Nat.reduceEqDiff]; simp [List.take_of_length_le], hG⟩, rfl⟩)
end Go.Proofs.YtpjbbpilgfihbaaGreatDoor
/- The walk within a round of a range over a function, and behind such a range. Own work of this seat (written by a program out of AvH, AvJ, AvJi, AvY). -/
set_option linter.unusedSimpArgs false
set_option linter.unusedVariables false
namespace Go.Av
open Go Go.RowKit

/-- a round's frame (or one behind a range): 'rd' the loop's record, 'df' the calls deferred, 'out' what is asked where the code is left -/
structure Cr where
  c : Cx
  rd : Option Nat
  df : List Deferred
  out : Exit → Act → World → Prop
def Cr.F (r : Cr) : Fence := { fn := fun _ => True, depth := none, alive := false, round := r.rd }
def WQg (F : Fence) (P : Program) (N : Nat) (out : Exit → Act → World → Prop) : List It → Exit → Act → World → Prop
  | [], e, a, w => out e a w
  | x :: k, e, a, w => match e with
    | .normal => match x with
      | .ops all rest => wpListIn F 0 P all.toArray (WQg F P N out k) rest a w
      | .op all o rest => dOk N o.dst = true → o.wpIn F 0 P a w (wpListIn F 0 P all.toArray (WQg F P N out k) rest) (WQg F P N out k)
      | .code y => y.wpIn F 0 P (WQg F P N out k) a w
      | .blk _ => WQg F P N out k .normal a w
      | .inv J => J a w
    | .exit id => match x with
      | .blk i => if id = i then WQg F P N out k .normal a w else WQg F P N out k (.exit id) a w
      | _ => WQg F P N out k (.exit id) a w
    | e => WQg F P N out k e a w
@[reducible] def WQr (r : Cr) : List It → Exit → Act → World → Prop := WQg r.F r.c.P r.c.fn.ntmps r.out

def SimR (r : Cr) (e : Env) (s : List Blk) (a : Act) (w : World) : Prop :=
  ∃ h ρ, Mine h ρ s w ∧ Later r.c.h r.c.ρ r.c.sto r.c.w h ρ s w ∧ EnvOk h ρ s e a ∧ a.defers = r.df ∧ a.tmps.size = r.c.fn.ntmps ∧ r.c.x h ρ w
theorem SimR.sim {r : Cr} {e : Env} {s : List Blk} {a : Act} {w : World} (h : SimR r e s a w) : Sim r.c e s { a with defers := [] } w := by
  obtain ⟨h, ρ, a1, a2, a3, a4, a5, a6⟩ := h
  exact ⟨h, ρ, a1, a2, a3, rfl, a5, a6⟩
theorem Sim.simR {r : Cr} {e : Env} {s : List Blk} {a : Act} {w : World} (hd : a.defers = r.df) (h : Sim r.c e s { a with defers := [] } w) : SimR r e s a w := by
  obtain ⟨h, ρ, a1, a2, a3, a4, a5, a6⟩ := h
  exact ⟨h, ρ, a1, a2, a3, hd, a5, a6⟩
theorem Shift.r {r : Cr} {e e' : Env} {s s' : List Blk} (x : Shift r.c e s e' s') {a : Act} {w : World} (h : SimR r e s a w) : SimR r e' s' a w := by
  have hd : a.defers = r.df := by obtain ⟨_, _, _, _, _, hd, _⟩ := h; exact hd
  exact Sim.simR hd (x _ _ h.sim)

def AWpR (r : Cr) (k : List It) (e : Env) (s : List Blk) : Prop := ∀ a w, SimR r e s a w → WQr r k .normal a w
def AOut (r : Cr) (x : Exit) (e : Env) (s : List Blk) : Prop := ∀ a w, SimR r e s a w → r.out x a w
def ACallR (r : Cr) (f : FuncId) (args : List AV) (d : Option Tmp) (all os : List Oper) (k : List It) (e : Env) (s : List Blk) : Prop :=
  ∀ a w h ρ vs, Mine h ρ s w → Later r.c.h r.c.ρ r.c.sto r.c.w h ρ s w → EnvOk h ρ s e a → a.defers = r.df → a.tmps.size = r.c.fn.ntmps → r.c.x h ρ w → RL h (Lf ρ s) false vs args →
    hasBody r.c.P f = true ∧ Calls r.c.P f vs.toArray w fun en w' => match en with
      | .returned v => WQr r (.ops all os :: k) .normal (a.put d v) w'
      | _ => False

def resNR (r : Cr) (o : Oper) (all os : List Oper) (k : List It) (e : Env) (s : List Blk) : Res → Nx
  | .ok v => .go (.ops all os :: k) (put e o.dst v) s
  | .side p v => .side p (.ops all os :: k) (put e o.dst v) s
  | .sto p v s' => .side p (.ops all os :: k) (put e o.dst v) s'
  | .pick b x y => .two b (.ops all os :: k) (put e o.dst x) s (.ops all os :: k) (put e o.dst y) s
  | .call f args => .leaf (ACallR r f args o.dst all os k e s)
  | .anyb p => .leaf (p ∧ ∀ b, AWpR r (.ops all os :: k) (put e o.dst (.bool b)) s)
  | .stuck => .leaf (AWpR r (.op all o os :: k) e s)
def stopNR (r : Cr) (k : List It) (e : Env) (s : List Blk) : Nx := .leaf (AWpR r k e s)
def exitNR (r : Cr) (id : Nat) (e : Env) (s : List Blk) : Option (List It) → Nx
  | some k => .go k e s
  | none => .leaf (AOut r (.exit id) e s)
def step1R (wr frz : Bool) (N : Nat) (r : Cr) (k : List It) (e : Env) (s : List Blk) : Nx :=
  match k with
  | .ops _ [] :: k => .go k e s
  | .ops all (o :: os) :: k => bif dOk N o.dst then opN o all os k e s o.guard else .leaf False
  | .op all o os :: k => resNR r o all os k e s (xop wr frz r.c.P e s o.op)
  | .code .skip :: k => .go k e s
  | .code (.region id ops draw) :: k => bif draw then stopNR r (.code (.region id ops true) :: k) e s else .go (.ops ops.toList ops.toList :: k) e s
  | .code (.seq a b) :: k => .go (.code a :: .code b :: k) e s
  | .code (.cond x a b) :: k => condN a b k e s (ev e x)
  | .code (.block id x) :: k => .go (.code x :: .blk id :: k) e s
  | .code (.exit id) :: k => exitNR r id e s (exitIt id k)
  | .code .ret :: _ => .leaf (AOut r .ret e s)
  | .code x :: k => stopNR r (.code x :: k) e s
  | .blk _ :: k => .go k e s
  | .inv J :: k => stopNR r (.inv J :: k) e s
  | [] => .leaf (AOut r .normal e s)

mutual
def runR (wr frz : Bool) (N : Nat) (c : Cr) : Nat → List It → Env → List Blk → Prop
  | 0, k, e, s => AWpR c k e s
  | n + 1, k, e, s => contR wr frz N c n (step1R wr frz N c k e s)
def contR (wr frz : Bool) (N : Nat) (c : Cr) : Nat → Nx → Prop
  | n, .go k e s => runR wr frz N c n k e s
  | n, .two b k e s k' e' s' => brR wr frz N c n b k e s k' e' s'
  | n, .side p k e s => p ∧ runR wr frz N c n k e s
  | _, .leaf p => p
def brR (wr frz : Bool) (N : Nat) (c : Cr) : Nat → Bool → List It → Env → List Blk → List It → Env → List Blk → Prop
  | 0, b, k, e, s, k', e', s' => (b = true → AWpR c k e s) ∧ (b = false → AWpR c k' e' s')
  | n + 1, b, k, e, s, k', e', s' => (b = true → runR wr frz N c n k e s) ∧ (b = false → runR wr frz N c n k' e' s')
end
section
variable {r : Cr} {k : List It} {e : Env} {s : List Blk}

theorem AWpR.shift {e' : Env} {s' : List Blk} (x : Shift r.c e s e' s') (h : AWpR r k e' s') : AWpR r k e s := fun a w hs => h a w (x.r hs)
theorem AOut.shift {y : Exit} {e' : Env} {s' : List Blk} (x : Shift r.c e s e' s') (h : AOut r y e' s') : AOut r y e s := fun a w hs => h a w (x.r hs)

end

section
variable {c : Cx} {e : Env} {s : List Blk}
/-! ### an open order: the text's order, with whatever follows -/
mutual
def dxk (c : Cx) (all : List Oper) (K : Env → List Blk → Prop) : Nat → List Oper → List AV → Env → List Blk → Prop
  | _, [], _, e, s => K e s
  | 0, _ :: _, _, _, _ => False
  | n + 1, o :: r, cs, e, s => dxkc c all K n (dgrd c all s o r cs e o.guard)
def dxkc (c : Cx) (all : List Oper) (K : Env → List Blk → Prop) : Nat → Dn → Prop
  | n, .go r cs e s => dxk c all K n r cs e s
  | n, .two b r cs e r' cs' e' s => dbrk c all K n b r cs e r' cs' e' s
  | n, .side p r cs e s => p ∧ dxk c all K n r cs e s
  | _, .fail => False
def dbrk (c : Cx) (all : List Oper) (K : Env → List Blk → Prop) : Nat → Bool → List Oper → List AV → Env → List Oper → List AV → Env → List Blk → Prop
  | 0, _, _, _, _, _, _, _, _ => False
  | n + 1, b, r, cs, e, r', cs', e', s => (b = true → dxk c all K n r cs e s) ∧ (b = false → dxk c all K n r' cs' e' s)
end
end

section
variable {r : Cr} {k : List It} {e : Env} {s : List Blk}
theorem SimR.eqv {e' : Env} {a : Act} {w : World} (h : Eqv e e') (hs : SimR r e s a w) : SimR r e' s a w := by
  obtain ⟨hh, ρ, hm, hl, he, hdf, hsz, hX⟩ := hs
  exact ⟨hh, ρ, hm, hl, fun t => by rw [← h t]; exact he t, hdf, hsz, hX⟩
theorem AWpR.eqv {e' : Env} (h : Eqv e e') (x : AWpR r k e s) : AWpR r k e' s := fun a w hs => x a w (hs.eqv fun t => (h t).symm)
theorem AWpR.K : ∀ e e' s, Eqv e e' → AWpR r k e s → AWpR r k e' s := fun _ _ _ h x => x.eqv h
end
end Go.Av
/- A range over a function: the rule, for a caller whose body is walked in plain data; the iterator's contract; the function's end. Own work of this seat. -/
set_option linter.unusedSimpArgs false
set_option linter.unusedVariables false
namespace Go.Av
open Go Go.RowKit

section
variable {h h' h0 : Mem} {ρ ρ' ρ0 : Own} {s s' s0 : List Blk} {w w' w0 : World}

theorem cell_putObj {l b o : Nat} {x : Obj} (hb : b ≠ l) : (w.putObj l x).cell? ⟨b, o, none⟩ = w.cell? ⟨b, o, none⟩ :=
  World.cell?_of_block (World.putObj_heap_other hb)
/-- a block that is no cells, and not of the table, turns -/
theorem Mine.putObj (m : Mine h ρ s w) {l : Nat} {o x : Obj} (hl : w.heap[l]? = some o) (hc : o.isCells = false) (hn : ∀ i t, ρ i ≠ some (l, t)) : Mine h ρ s (w.putObj l x) := by
  refine ⟨fun b i v e => ?_, fun id blk e => ?_, m.out, m.inj, m.disj⟩
  · have h1 := m.mem b i v e
    refine ⟨?_, h1.2⟩
    by_cases hb : b = l
    · subst hb
      exfalso
      have := h1.1
      simp only [World.cell?, hl] at this
      cases o <;> simp [Obj.isCells] at hc this
    · rw [cell_putObj hb]; exact h1.1
  · exact (m.own id blk e).mono (fun _ _ _ x => x) (fun _ _ x => x) rfl fun g t hg => World.putObj_heap_other fun e => hn id t (by rw [← e]; exact hg)
/-- .. and turns back -/
theorem Later.around {l : Nat} {o1 o2 : Obj} (hl : w.heap[l]? = some o1) (L : Later h ρ s (w.putObj l o2) h' ρ' s' w') : Later h ρ s w h' ρ' s' (w'.putObj l o1) := by
  have hlt : l < w.heap.size := (Array.getElem?_eq_some_iff.1 hl).1
  have hsz := L.size
  rw [World.putObj_size] at hsz
  refine ⟨L.hle, fun b o a e => by have := L.hnew b o a e; rwa [World.putObj_size] at this, L.keep, L.os, L.tape, L.output, by rw [World.putObj_size]; exact hsz, fun k hk hn => ?_, fun i g t e => by have := L.newown i g t e; rwa [World.putObj_size] at this⟩
  by_cases hkl : k = l
  · subst hkl
    rw [World.putObj_heap_same (by omega), hl]
  · rw [World.putObj_heap_other hkl, L.block k (by rw [World.putObj_size]; exact hk) hn, World.putObj_heap_other hkl]
end

/-- fewer slots, the table told in other words -/
theorem Shift.weakS {c : Cx} {e e' : Env} {s s' : List Blk} (h : wk e e') (hs : s = s') : Shift c e s e' s' := hs ▸ Shift.weak h

/-- blocks that hold just this, and are not of the table -/
def XB (l : List (Nat × Obj)) : Mem → Own → World → Prop := fun _ ρ w => ∀ p ∈ l, w.heap[p.1]? = some p.2 ∧ ∀ i t, ρ i ≠ some (p.1, t)
theorem stbB (l : List (Nat × Obj)) : Stb (XB l) where
  later := fun {h ρ sto w h' ρ' sto' w'} _ L x p hp => by
    obtain ⟨h1, h2⟩ := x p hp
    have hlt : p.1 < w.heap.size := (Array.getElem?_eq_some_iff.1 h1).1
    refine ⟨(L.block p.1 hlt h2).trans h1, fun i t e => ?_⟩
    rcases L.newown i p.1 t e with ⟨j, t', hj⟩ | hs
    · exact h2 j t' hj
    · omega
  fewer := fun hf x p hp => by
    obtain ⟨h1, h2⟩ := x p hp
    refine ⟨h1, fun i t e => ?_⟩
    obtain ⟨j, t', hj⟩ := hf i p.1 t e
    exact h2 j t' hj
def DfO (Ds : List Nat) : List (Nat × Obj) := Ds.map fun D => (D, .deferred (some []))
def dfs (Ds : List Nat) : List Deferred := Ds.map fun D => { target := .collected D, args := #[] }

/-- the context of a round; of code behind ranges -/
def outM (P : Program) (fn : Func) (h : Mem) (ρ : Own) (sto : List Blk) (w : World) (post : AV → List Blk → Prop) : Exit → Act → World → Prop :=
  bodyPostM Fence.wide 0 P fn fun en w' => ∃ v r s h' ρ', en = .returned v ∧ post r s ∧ Mine h' ρ' s w' ∧ Later h ρ sto w h' ρ' s w' ∧ RV h' (Lf ρ' s) false v r
@[reducible] def mkM (P : Program) (fn : Func) (h : Mem) (ρ : Own) (sto : List Blk) (w : World) (post : AV → List Blk → Prop) (Ds : List Nat) : Cr :=
  ⟨⟨P, fn, h, ρ, sto, w, post, XB (DfO Ds), stbB _⟩, none, dfs Ds, outM P fn h ρ sto w post⟩
@[reducible] def mkL (P : Program) (fn : Func) (h : Mem) (ρ : Own) (sto : List Blk) (w : World) (l : List (Nat × Obj)) (id : Nat) : Cr :=
  ⟨⟨P, fn, h, ρ, sto, w, fun _ _ => True, XB l, stbB l⟩, some id, [], fun _ _ _ => False⟩

end Go.Av
/- The words of a text, told by the references: only that there are not too many. Own work of this seat. -/
set_option maxRecDepth 100000
set_option linter.unusedSimpArgs false
set_option linter.unusedVariables false
namespace Go.Proofs.YtpjbbpilgfihbaaGreatDoor
open Go Go.Av Go.RowKit
attribute [local go_sem ↓] br_true br_false dbr_true dbr_false dbri_true dbri_false dbrg_true dbrg_false
attribute [local go_sem] run cont br dbr dx dxc dgrd dyld dres dcall calm fieldPlace? allHas step1 opN grdN resN condN exitN stopN exitIt dOk xop xbin xint xarith xstr xbool xpick xnot xneg xextract xpart xpartOk xindex xfieldF fieldD xnew xbox xalloc xfieldAddr xptrAddIf xindexAddr xloadC xload putCells reElem xstoreB xstore xconv xtext xlen xlen2 xcall xfill xbuild cut rep xbuildSlice xbuildSliceD isRow elemD isU8 ev evs evp Go.Av.put Go.Av.get ofConst yldD yldV notBool_undef args0 cellsOf cond_true cond_false decide_true decide_false decide_eq_true_eq decide_eq_false_iff_not List.getElem?_cons_zero List.getElem?_cons_succ List.getElem?_nil List.getD_cons_zero List.getD_cons_succ List.getD_nil List.set_cons_zero List.set_cons_succ List.length_cons List.length_nil List.cons_append List.nil_append List.append_nil List.all_cons List.all_nil List.map_cons List.map_nil List.take_succ_cons List.take_zero List.drop_succ_cons List.drop_zero Bool.and_true Bool.true_and Bool.and_self Bool.and_false Bool.false_and one Go.Av.frozen beq_self_eq_true true_and and_true forall_const false_implies implies_true and_self Option.map_some Option.map_none Nat.zero_add Nat.add_zero Nat.zero_mul Nat.mul_one Nat.one_mul Int.toNat_zero ne_eq not_false_eq_true not_true_eq_false Bool.true_eq_false Bool.false_eq_true List.toList_toArray inr Go.Av.byteOf isByte decide_eq_decide Bool.not_true Bool.not_false Bool.not_eq_true' Bool.or_true Bool.true_or Bool.or_false Bool.false_or ge_iff_le gt_iff_lt and_assoc Bool.decide_eq_true beq_iff_eq beq_eq_false_iff_ne bne_iff_ne bne_self_eq_false if_true if_false Bool.and_eq_true Bool.or_eq_true Bool.and_eq_false_imp Bool.or_eq_false_iff Bool.not_eq_false' has Option.isSome_some Option.isSome_none Int.toNat_natCast Int.cast_ofNat_Int List.length_append xapp2 xapp xappS xappD xappB notInt srcOf srcB byteAV splice' xcut xcutS xcutF xcutB xcutN xcut0 cutL loOf hiOf evo xmake zelem xmax xcopy2 xcopyS xcopyB xnil xcut3 ixOf xclear2 xclearB List.getElem?_toArray xbin2 xnileq xempty xmkmap xmput xmputB xmputF isKey keyEq mfind xbin3 xeqs xeqop eqFs bothB leafEq xlook xlookB xlookF xbytes beq_c_n beq_n_c bne_c_n bne_n_c one_nil dxi dxic dbri rix dck reader blind opOk refOk Go.Op.operands Go.Call.operands List.contains_cons List.contains_nil dxg dxgc dbrg pck putD List.lookup_cons List.lookup_nil ts2 tb2 zl2 za2 Tryz.underlying2 ts3 tb3 zl3 za3 Tryz.underlying3 ts4 tb4 zl4 za4 Tryz.underlying4 ts5 tb5 zl5 za5 Tryz.underlying5 ts6 tb6 zl6 za6 Tryz.underlying6 ts7 tb7 za7 Tryz.underlying7 ts8 tb8 za8 Tryz.underlying8 ts9 tb9 zl9 za9 Tryz.underlying9 ts10 tb10 zl10 za10 Tryz.underlying10 ts11 tb11 zl11 za11 Tryz.underlying11 ts12 tb12 zl12 za12 Tryz.underlying12 ts13 tb13 za13 Tryz.underlying13 ts14 tb14 za14 Tryz.underlying14 ts18 tb18 za18 Tryz.underlying18 ts19 tb19 za19 Tryz.underlying19 ts21 tb21 zl21 za21 Tryz.underlying21 ts22 tb22 zl22 za22 Tryz.underlying22 ts24 tb24 za24 Tryz.underlying24 ts25 tb25 za25 Tryz.underlying25 ts27 tb27 zl27 za27 Tryz.underlying27 ts35 tb35 zl35 za35 Tryz.underlying35 ts36 tb36 za36 Tryz.underlying36 ts37 tb37 za37 Tryz.underlying37 ts39 tb39 zl39 za39 Tryz.underlying39 ts41 tb41 za41 Tryz.underlying41 ts42 tb42 za42 Tryz.underlying42 ts63 tb63 zl63 za63 Tryz.underlying63 ts64 tb64 zl64 za64 Tryz.underlying64 ts65 tb65 za65 Tryz.underlying65 ts66 tb66 za66 Tryz.underlying66 ts67 tb67 zl67 za67 Tryz.underlying67 ts69 tb69 za69 Tryz.underlying69 ts70 tb70 za70 Tryz.underlying70 ts73 tb73 za73 Tryz.underlying73 ts74 tb74 za74 Tryz.underlying74 ts75 tb75 zl75 za75 Tryz.underlying75 ts82 tb82 zl82 za82 Tryz.underlying82 ts96 tb96 za96 Tryz.underlying96 ts97 tb97 za97 Tryz.underlying97 ts103 tb103 za103 Tryz.underlying103 ts104 tb104 za104 Tryz.underlying104 ts109 tb109 zl109 za109 Tryz.underlying109 ts116 tb116 zl116 za116 Tryz.underlying116 ts117 tb117 za117 Tryz.underlying117 ts118 tb118 za118 Tryz.underlying118 ts120 tb120 zl120 za120 Tryz.underlying120 ts124 tb124 zl124 za124 Tryz.underlying124 ts126 tb126 za126 Tryz.underlying126 ts128 tb128 zl128 za128 Tryz.underlying128 ts130 tb130 za130 Tryz.underlying130 ts131 tb131 za131 Tryz.underlying131 ts153 tb153 zl153 za153 Tryz.underlying153 ts167 tb167 zl167 za167 Tryz.underlying167 ts171 tb171 zl171 za171 Tryz.underlying171 ts177 tb177 zl177 za177 Tryz.underlying177 ts183 tb183 zl183 za183 Tryz.underlying183 ts189 tb189 zl189 za189 Tryz.underlying189 ts191 tb191 zl191 za191 Tryz.underlying191 ts195 tb195 za195 Tryz.underlying195 ts196 tb196 za196 Tryz.underlying196 ts198 tb198 zl198 za198 Tryz.underlying198 ts203 tb203 Tryz.underlying203 ts209 tb209 za209 Tryz.underlying209 ts210 tb210 za210 Tryz.underlying210 ts211 tb211 Tryz.underlying211 ts216 tb216 za216 Tryz.underlying216 ts217 tb217 za217 Tryz.underlying217 ts220 tb220 Tryz.underlying220 ts225 tb225 Tryz.underlying225 ts226 tb226 Tryz.underlying226 ts227 tb227 za227 Tryz.underlying227 ts228 tb228 za228 Tryz.underlying228 ts232 tb232 zl232 za232 Tryz.underlying232 ts233 tb233 zl233 za233 Tryz.underlying233 ts235 tb235 zl235 za235 Tryz.underlying235 ts236 tb236 zl236 za236 Tryz.underlying236 ts237 tb237 za237 Tryz.underlying237 ts238 tb238 za238 Tryz.underlying238

def inW (n : Int) : Bool := (decide (n ≥ 97) && decide (n ≤ 122)) || ((decide (n ≥ 65) && decide (n ≤ 90)) || ((decide (n ≥ 48) && decide (n ≤ 57)) || n == 39))
theorem inW_small {n : Int} (h : inW n = true) : 0 ≤ n ∧ n < 123 := by
  simp only [inW, Bool.or_eq_true, Bool.and_eq_true, decide_eq_true_eq, beq_iff_eq] at h
  omega
set_option maxHeartbeats 1000000 in
theorem inWord_pc (n : Int) : Pc Tryz.prog 69 [.int .u8 n] (· = .bool (inW n)) := by
  unfold inW
  cases e1 : decide (n ≥ 97) <;> cases e3 : decide (n ≥ 65) <;> cases e5 : decide (n ≥ 48)
  · refine pc_intro (ct_intro Tryz.func69 rfl Tryz.ntmps69 hB69 (by simp) fun h ρ w => go (N := 29) Tryz.ntmps69 300 ?_)
    simp only [go_sem, Nat.reduceAdd, Nat.reduceMul, Nat.reduceSub, Nat.reduceBEq, Nat.reduceLT, Nat.reduceLeDiff, reduceIte, reduceCtorEq, Int.reduceToNat, Int.reduceLE, Int.reduceLT, Int.reduceNe, Int.reduceMul, Int.reduceAdd, Int.reduceSub, Int.reduceDiv, Int.reduceMod, Int.reduceEq, Int.reduceGE, Int.reduceGT, Int.reduceNeg, Int.reduceBEq, Int.reduceBNe, Nat.reduceEqDiff, e1, e3, e5]
    exact aret [2] rfl ⟨rfl, rfl⟩
  all_goals
    cases e2 : decide (n ≤ 122) <;> cases e4 : decide (n ≤ 90) <;> cases e6 : decide (n ≤ 57) <;>
    · refine pc_intro (ct_intro Tryz.func69 rfl Tryz.ntmps69 hB69 (by simp) fun h ρ w => go (N := 29) Tryz.ntmps69 300 ?_)
      simp only [go_sem, Nat.reduceAdd, Nat.reduceMul, Nat.reduceSub, Nat.reduceBEq, Nat.reduceLT, Nat.reduceLeDiff, reduceIte, reduceCtorEq, Int.reduceToNat, Int.reduceLE, Int.reduceLT, Int.reduceNe, Int.reduceMul, Int.reduceAdd, Int.reduceSub, Int.reduceDiv, Int.reduceMod, Int.reduceEq, Int.reduceGE, Int.reduceGT, Int.reduceNeg, Int.reduceBEq, Int.reduceBNe, Nat.reduceEqDiff, e1, e2, e3, e4, e5, e6]
      exact aret [2] rfl ⟨rfl, rfl⟩

def wlow (c : UInt8) : UInt8 := bif decide ((c.toNat : Int) ≥ 65) && decide ((c.toNat : Int) ≤ 90) then UInt8.ofNat ((c.toNat : Int) + 32).toNat else UInt8.ofNat (c.toNat : Int).toNat
def wo (wd : List UInt8) (out : List (List UInt8)) : List UInt8 → List (List UInt8)
  | [] => bif Lib.trimS wd [39] != [] then out ++ [wd] else out
  | c :: r => bif inW c.toNat then wo (wd ++ [wlow c]) out r else wo [] (bif Lib.trimS wd [39] != [] then out ++ [wd] else out) r
def woL (s : List UInt8) : List (List UInt8) := wo [] [] s
theorem wo_len : ∀ (s wd : List UInt8) (out : List (List UInt8)), (wo wd out s).length ≤ out.length + s.length + 1
  | [], wd, out => by
    unfold wo
    cases Lib.trimS wd [39] != [] <;> simp
  | c :: r, wd, out => by
    unfold wo
    cases inW c.toNat with
    | true =>
      have := wo_len r (wd ++ [wlow c]) out
      simp only [cond_true, List.length_cons]; omega
    | false =>
      cases Lib.trimS wd [39] != [] with
      | true =>
        have := wo_len r [] (out ++ [wd])
        simp only [cond_true, cond_false, List.length_cons, List.length_append, List.length_nil] at this ⊢; omega
      | false =>
        have := wo_len r [] out
        simp only [cond_false, List.length_cons]; omega
set_option maxHeartbeats 4000000 in
theorem wordsOf_pc (s : List UInt8) (hs : s.length < 1000000) : Pc Tryz.prog 34 [.str s] (· = .fz 1 ((woL s).map .str)) := by
  refine pc_intro (ct_intro Tryz.func34 rfl Tryz.ntmps34 hB34 (by simp) fun h ρ w => go (N := 47) Tryz.ntmps34 300 ?_)
  simp only [go_sem, Nat.reduceAdd, Nat.reduceMul, Nat.reduceSub, Nat.reduceBEq, Nat.reduceLT, Nat.reduceLeDiff, reduceIte, reduceCtorEq, Int.reduceToNat, Int.reduceLE, Int.reduceLT, Int.reduceNe, Int.reduceMul, Int.reduceAdd, Int.reduceSub, Int.reduceDiv, Int.reduceMod, Int.reduceEq, Int.reduceGE, Int.reduceGT, Int.reduceNeg, Int.reduceBEq, Int.reduceBNe, Nat.reduceEqDiff]
  refine aloop (ι := Nat × List UInt8 × List (List UInt8)) (fun y => s.length + 1 - y.1)
    (fun y => [(5, .int .i64 y.1), (4, .str y.2.1), (3, .sl 0 0 y.2.2.length y.2.2.length), (0, .str s)])
    (fun y => [.arr 1 (y.2.2.map .str)])
    (fun y => y.1 ≤ s.length + 1 ∧ y.2.1.length ≤ y.1 ∧ y.2.2.length ≤ y.1 ∧ (y.1 ≤ s.length → wo y.2.1 y.2.2 (s.drop y.1) = woL s) ∧ (y.1 = s.length + 1 → y.2.2 = woL s)) (0, [], []) ⟨by simp, by simp, by simp, fun _ => rfl, fun h => by simp at h⟩ ?_ ?_
  · refine Shift.trans (Shift.nilsl 3 1 rfl) (Shift.weak ?_)
    simp only [wk, go_sem, Nat.reduceAdd, Nat.reduceMul, Nat.reduceSub, Nat.reduceBEq, Nat.reduceLT, Nat.reduceLeDiff, reduceIte, reduceCtorEq, Int.reduceToNat, Int.reduceLE, Int.reduceLT, Int.reduceNe, Int.reduceMul, Int.reduceAdd, Int.reduceSub, Int.reduceDiv, Int.reduceMod, Int.reduceEq, Int.reduceGE, Int.reduceGT, Int.reduceNeg, Int.reduceBEq, Int.reduceBNe, Nat.reduceEqDiff]
  · rintro ⟨i, wd, out⟩ ⟨g1, g2, g3, g4, g5⟩ J hJ
    simp only at g1 g2 g3 g4 g5 hJ ⊢
    by_cases gi : i ≤ s.length
    · have di : decide ((i : Int) ≤ (s.length : Int)) = true := by simp; omega
      have htr := trim_pc wd [39] (by omega) (by simp) (ascii_set rfl)
      have g6 := g4 gi
      by_cases gl : i < s.length
      · have hd : s.drop i = s.getD i 0 :: s.drop (i + 1) := by rw [List.drop_eq_getElem_cons gl]; simp [gl]
        rw [hd] at g6
        simp only [wo] at g6
        have dl : decide ((i : Int) < (s.length : Int)) = true := by simp; omega
        cases hw : inW (s.getD i 0).toNat with
        | true =>
          have hsm := inW_small hw
          cases c1 : decide (((s.getD i 0).toNat : Int) ≥ 65) with
          | true =>
            cases c2 : decide (((s.getD i 0).toNat : Int) ≤ 90) with
            | true =>
              have q2 : ((s.getD i 0).toNat : Int) ≤ 90 := by simpa using c2
              refine goF (N := 47) Tryz.ntmps34 300 ?_
              simp only [go_sem, Nat.reduceAdd, Nat.reduceMul, Nat.reduceSub, Nat.reduceBEq, Nat.reduceLT, Nat.reduceLeDiff, reduceIte, reduceCtorEq, Int.reduceToNat, Int.reduceLE, Int.reduceLT, Int.reduceNe, Int.reduceMul, Int.reduceAdd, Int.reduceSub, Int.reduceDiv, Int.reduceMod, Int.reduceEq, Int.reduceGE, Int.reduceGT, Int.reduceNeg, Int.reduceBEq, Int.reduceBNe, Nat.reduceEqDiff, di, dl]
              repeat refine And.intro (by first | omega | exact .inl trivial | rfl | (simp; done) | (simp; omega)) ?_
              refine pcall1 (inWord_pc _) rfl (N := 47) Tryz.ntmps34 rfl (goF (N := 47) Tryz.ntmps34 300 ?_)
              simp only [go_sem, Nat.reduceAdd, Nat.reduceMul, Nat.reduceSub, Nat.reduceBEq, Nat.reduceLT, Nat.reduceLeDiff, reduceIte, reduceCtorEq, Int.reduceToNat, Int.reduceLE, Int.reduceLT, Int.reduceNe, Int.reduceMul, Int.reduceAdd, Int.reduceSub, Int.reduceDiv, Int.reduceMod, Int.reduceEq, Int.reduceGE, Int.reduceGT, Int.reduceNeg, Int.reduceBEq, Int.reduceBNe, Nat.reduceEqDiff, hw, c1, c2]
              repeat refine And.intro (by first | omega | exact .inl trivial | rfl | (simp; done) | (simp; omega)) ?_
              rw [show (i : Int) + 1 = ((i + 1 : Nat) : Int) by omega]
              refine ainv (hJ (i + 1, wd ++ [UInt8.ofNat (((s.getD i 0).toNat : Int) + 32).toNat], out) ⟨by simp only; omega, by simp; omega, by simp only; omega, fun _ => by simpa only [hw, wlow, c1, c2, cond_true, Bool.and_self] using g6, fun h => by simp only at h; omega⟩ (by simp only; omega)) (Shift.weak ?_)
              simp only [wk, go_sem, Nat.reduceAdd, Nat.reduceMul, Nat.reduceSub, Nat.reduceBEq, Nat.reduceLT, Nat.reduceLeDiff, reduceIte, reduceCtorEq, Int.reduceToNat, Int.reduceLE, Int.reduceLT, Int.reduceNe, Int.reduceMul, Int.reduceAdd, Int.reduceSub, Int.reduceDiv, Int.reduceMod, Int.reduceEq, Int.reduceGE, Int.reduceGT, Int.reduceNeg, Int.reduceBEq, Int.reduceBNe, Nat.reduceEqDiff]
            | false =>
              refine goF (N := 47) Tryz.ntmps34 300 ?_
              simp only [go_sem, Nat.reduceAdd, Nat.reduceMul, Nat.reduceSub, Nat.reduceBEq, Nat.reduceLT, Nat.reduceLeDiff, reduceIte, reduceCtorEq, Int.reduceToNat, Int.reduceLE, Int.reduceLT, Int.reduceNe, Int.reduceMul, Int.reduceAdd, Int.reduceSub, Int.reduceDiv, Int.reduceMod, Int.reduceEq, Int.reduceGE, Int.reduceGT, Int.reduceNeg, Int.reduceBEq, Int.reduceBNe, Nat.reduceEqDiff, di, dl]
              repeat refine And.intro (by first | omega | exact .inl trivial | rfl | (simp; done) | (simp; omega)) ?_
              refine pcall1 (inWord_pc _) rfl (N := 47) Tryz.ntmps34 rfl (goF (N := 47) Tryz.ntmps34 300 ?_)
              simp only [go_sem, Nat.reduceAdd, Nat.reduceMul, Nat.reduceSub, Nat.reduceBEq, Nat.reduceLT, Nat.reduceLeDiff, reduceIte, reduceCtorEq, Int.reduceToNat, Int.reduceLE, Int.reduceLT, Int.reduceNe, Int.reduceMul, Int.reduceAdd, Int.reduceSub, Int.reduceDiv, Int.reduceMod, Int.reduceEq, Int.reduceGE, Int.reduceGT, Int.reduceNeg, Int.reduceBEq, Int.reduceBNe, Nat.reduceEqDiff, hw, c1, c2]
              repeat refine And.intro (by first | omega | exact .inl trivial | rfl | (simp; done) | (simp; omega)) ?_
              rw [show (i : Int) + 1 = ((i + 1 : Nat) : Int) by omega]
              refine ainv (hJ (i + 1, wd ++ [UInt8.ofNat ((s.getD i 0).toNat : Int).toNat], out) ⟨by simp only; omega, by simp; omega, by simp only; omega, fun _ => by simpa only [hw, wlow, c1, c2, cond_true, cond_false, Bool.and_false] using g6, fun h => by simp only at h; omega⟩ (by simp only; omega)) (Shift.weak ?_)
              simp only [wk, go_sem, Nat.reduceAdd, Nat.reduceMul, Nat.reduceSub, Nat.reduceBEq, Nat.reduceLT, Nat.reduceLeDiff, reduceIte, reduceCtorEq, Int.reduceToNat, Int.reduceLE, Int.reduceLT, Int.reduceNe, Int.reduceMul, Int.reduceAdd, Int.reduceSub, Int.reduceDiv, Int.reduceMod, Int.reduceEq, Int.reduceGE, Int.reduceGT, Int.reduceNeg, Int.reduceBEq, Int.reduceBNe, Nat.reduceEqDiff]
          | false =>
            refine goF (N := 47) Tryz.ntmps34 300 ?_
            simp only [go_sem, Nat.reduceAdd, Nat.reduceMul, Nat.reduceSub, Nat.reduceBEq, Nat.reduceLT, Nat.reduceLeDiff, reduceIte, reduceCtorEq, Int.reduceToNat, Int.reduceLE, Int.reduceLT, Int.reduceNe, Int.reduceMul, Int.reduceAdd, Int.reduceSub, Int.reduceDiv, Int.reduceMod, Int.reduceEq, Int.reduceGE, Int.reduceGT, Int.reduceNeg, Int.reduceBEq, Int.reduceBNe, Nat.reduceEqDiff, di, dl]
            repeat refine And.intro (by first | omega | exact .inl trivial | rfl | (simp; done) | (simp; omega)) ?_
            refine pcall1 (inWord_pc _) rfl (N := 47) Tryz.ntmps34 rfl (goF (N := 47) Tryz.ntmps34 300 ?_)
            simp only [go_sem, Nat.reduceAdd, Nat.reduceMul, Nat.reduceSub, Nat.reduceBEq, Nat.reduceLT, Nat.reduceLeDiff, reduceIte, reduceCtorEq, Int.reduceToNat, Int.reduceLE, Int.reduceLT, Int.reduceNe, Int.reduceMul, Int.reduceAdd, Int.reduceSub, Int.reduceDiv, Int.reduceMod, Int.reduceEq, Int.reduceGE, Int.reduceGT, Int.reduceNeg, Int.reduceBEq, Int.reduceBNe, Nat.reduceEqDiff, hw, c1]
            repeat refine And.intro (by first | omega | exact .inl trivial | rfl | (simp; done) | (simp; omega)) ?_
            rw [show (i : Int) + 1 = ((i + 1 : Nat) : Int) by omega]
            refine ainv (hJ (i + 1, wd ++ [UInt8.ofNat ((s.getD i 0).toNat : Int).toNat], out) ⟨by simp only; omega, by simp; omega, by simp only; omega, fun _ => by simpa only [hw, wlow, c1, cond_true, cond_false, Bool.false_and] using g6, fun h => by simp only at h; omega⟩ (by simp only; omega)) (Shift.weak ?_)
            simp only [wk, go_sem, Nat.reduceAdd, Nat.reduceMul, Nat.reduceSub, Nat.reduceBEq, Nat.reduceLT, Nat.reduceLeDiff, reduceIte, reduceCtorEq, Int.reduceToNat, Int.reduceLE, Int.reduceLT, Int.reduceNe, Int.reduceMul, Int.reduceAdd, Int.reduceSub, Int.reduceDiv, Int.reduceMod, Int.reduceEq, Int.reduceGE, Int.reduceGT, Int.reduceNeg, Int.reduceBEq, Int.reduceBNe, Nat.reduceEqDiff]
        | false =>
          cases ht : Lib.trimS wd [39] != [] with
          | true =>
            refine goF (N := 47) Tryz.ntmps34 300 ?_
            simp only [go_sem, Nat.reduceAdd, Nat.reduceMul, Nat.reduceSub, Nat.reduceBEq, Nat.reduceLT, Nat.reduceLeDiff, reduceIte, reduceCtorEq, Int.reduceToNat, Int.reduceLE, Int.reduceLT, Int.reduceNe, Int.reduceMul, Int.reduceAdd, Int.reduceSub, Int.reduceDiv, Int.reduceMod, Int.reduceEq, Int.reduceGE, Int.reduceGT, Int.reduceNeg, Int.reduceBEq, Int.reduceBNe, Nat.reduceEqDiff, di, dl]
            repeat refine And.intro (by first | omega | exact .inl trivial | rfl | (simp; done) | (simp; omega)) ?_
            refine pcall1 (inWord_pc _) rfl (N := 47) Tryz.ntmps34 rfl (goF (N := 47) Tryz.ntmps34 300 ?_)
            simp only [go_sem, Nat.reduceAdd, Nat.reduceMul, Nat.reduceSub, Nat.reduceBEq, Nat.reduceLT, Nat.reduceLeDiff, reduceIte, reduceCtorEq, Int.reduceToNat, Int.reduceLE, Int.reduceLT, Int.reduceNe, Int.reduceMul, Int.reduceAdd, Int.reduceSub, Int.reduceDiv, Int.reduceMod, Int.reduceEq, Int.reduceGE, Int.reduceGT, Int.reduceNeg, Int.reduceBEq, Int.reduceBNe, Nat.reduceEqDiff, hw]
            refine pcall1 (htr) rfl (N := 47) Tryz.ntmps34 rfl (goF (N := 47) Tryz.ntmps34 300 ?_)
            simp only [go_sem, Nat.reduceAdd, Nat.reduceMul, Nat.reduceSub, Nat.reduceBEq, Nat.reduceLT, Nat.reduceLeDiff, reduceIte, reduceCtorEq, Int.reduceToNat, Int.reduceLE, Int.reduceLT, Int.reduceNe, Int.reduceMul, Int.reduceAdd, Int.reduceSub, Int.reduceDiv, Int.reduceMod, Int.reduceEq, Int.reduceGE, Int.reduceGT, Int.reduceNeg, Int.reduceBEq, Int.reduceBNe, Nat.reduceEqDiff, ht, List.length_map]
            repeat refine And.intro (by first | omega | exact .inl trivial | rfl | (simp; done) | (simp; omega)) ?_
            rw [show (i : Int) + 1 = ((i + 1 : Nat) : Int) by omega]
            refine ainv (hJ (i + 1, [], out ++ [wd]) ⟨by simp only; omega, by simp, by simp; omega, fun _ => by simpa only [hw, ht, cond_true, cond_false] using g6, fun h => by simp only at h; omega⟩ (by simp only; omega)) (Shift.weakS ?_ (by simp))
            simp only [wk, go_sem, Nat.reduceAdd, Nat.reduceMul, Nat.reduceSub, Nat.reduceBEq, Nat.reduceLT, Nat.reduceLeDiff, reduceIte, reduceCtorEq, Int.reduceToNat, Int.reduceLE, Int.reduceLT, Int.reduceNe, Int.reduceMul, Int.reduceAdd, Int.reduceSub, Int.reduceDiv, Int.reduceMod, Int.reduceEq, Int.reduceGE, Int.reduceGT, Int.reduceNeg, Int.reduceBEq, Int.reduceBNe, Nat.reduceEqDiff, List.length_append, List.length_cons, List.length_nil]
          | false =>
            refine goF (N := 47) Tryz.ntmps34 300 ?_
            simp only [go_sem, Nat.reduceAdd, Nat.reduceMul, Nat.reduceSub, Nat.reduceBEq, Nat.reduceLT, Nat.reduceLeDiff, reduceIte, reduceCtorEq, Int.reduceToNat, Int.reduceLE, Int.reduceLT, Int.reduceNe, Int.reduceMul, Int.reduceAdd, Int.reduceSub, Int.reduceDiv, Int.reduceMod, Int.reduceEq, Int.reduceGE, Int.reduceGT, Int.reduceNeg, Int.reduceBEq, Int.reduceBNe, Nat.reduceEqDiff, di, dl]
            repeat refine And.intro (by first | omega | exact .inl trivial | rfl | (simp; done) | (simp; omega)) ?_
            refine pcall1 (inWord_pc _) rfl (N := 47) Tryz.ntmps34 rfl (goF (N := 47) Tryz.ntmps34 300 ?_)
            simp only [go_sem, Nat.reduceAdd, Nat.reduceMul, Nat.reduceSub, Nat.reduceBEq, Nat.reduceLT, Nat.reduceLeDiff, reduceIte, reduceCtorEq, Int.reduceToNat, Int.reduceLE, Int.reduceLT, Int.reduceNe, Int.reduceMul, Int.reduceAdd, Int.reduceSub, Int.reduceDiv, Int.reduceMod, Int.reduceEq, Int.reduceGE, Int.reduceGT, Int.reduceNeg, Int.reduceBEq, Int.reduceBNe, Nat.reduceEqDiff, hw]
            refine pcall1 (htr) rfl (N := 47) Tryz.ntmps34 rfl (goF (N := 47) Tryz.ntmps34 300 ?_)
            simp only [go_sem, Nat.reduceAdd, Nat.reduceMul, Nat.reduceSub, Nat.reduceBEq, Nat.reduceLT, Nat.reduceLeDiff, reduceIte, reduceCtorEq, Int.reduceToNat, Int.reduceLE, Int.reduceLT, Int.reduceNe, Int.reduceMul, Int.reduceAdd, Int.reduceSub, Int.reduceDiv, Int.reduceMod, Int.reduceEq, Int.reduceGE, Int.reduceGT, Int.reduceNeg, Int.reduceBEq, Int.reduceBNe, Nat.reduceEqDiff, ht]
            repeat refine And.intro (by first | omega | exact .inl trivial | rfl | (simp; done) | (simp; omega)) ?_
            rw [show (i : Int) + 1 = ((i + 1 : Nat) : Int) by omega]
            refine ainv (hJ (i + 1, [], out) ⟨by simp only; omega, by simp, by simp only; omega, fun _ => by simpa only [hw, ht, cond_false] using g6, fun h => by simp only at h; omega⟩ (by simp only; omega)) (Shift.weak ?_)
            simp only [wk, go_sem, Nat.reduceAdd, Nat.reduceMul, Nat.reduceSub, Nat.reduceBEq, Nat.reduceLT, Nat.reduceLeDiff, reduceIte, reduceCtorEq, Int.reduceToNat, Int.reduceLE, Int.reduceLT, Int.reduceNe, Int.reduceMul, Int.reduceAdd, Int.reduceSub, Int.reduceDiv, Int.reduceMod, Int.reduceEq, Int.reduceGE, Int.reduceGT, Int.reduceNeg, Int.reduceBEq, Int.reduceBNe, Nat.reduceEqDiff]
      · have dl : decide ((i : Int) < (s.length : Int)) = false := by simp; omega
        rw [List.drop_of_length_le (by omega)] at g6
        simp only [wo] at g6
        cases ht : Lib.trimS wd [39] != [] with
        | true =>
          refine goF (N := 47) Tryz.ntmps34 300 ?_
          simp only [go_sem, Nat.reduceAdd, Nat.reduceMul, Nat.reduceSub, Nat.reduceBEq, Nat.reduceLT, Nat.reduceLeDiff, reduceIte, reduceCtorEq, Int.reduceToNat, Int.reduceLE, Int.reduceLT, Int.reduceNe, Int.reduceMul, Int.reduceAdd, Int.reduceSub, Int.reduceDiv, Int.reduceMod, Int.reduceEq, Int.reduceGE, Int.reduceGT, Int.reduceNeg, Int.reduceBEq, Int.reduceBNe, Nat.reduceEqDiff, di, dl]
          repeat refine And.intro (by first | omega | exact .inl trivial | rfl | (simp; done) | (simp; omega)) ?_
          refine pcall1 (htr) rfl (N := 47) Tryz.ntmps34 rfl (goF (N := 47) Tryz.ntmps34 300 ?_)
          simp only [go_sem, Nat.reduceAdd, Nat.reduceMul, Nat.reduceSub, Nat.reduceBEq, Nat.reduceLT, Nat.reduceLeDiff, reduceIte, reduceCtorEq, Int.reduceToNat, Int.reduceLE, Int.reduceLT, Int.reduceNe, Int.reduceMul, Int.reduceAdd, Int.reduceSub, Int.reduceDiv, Int.reduceMod, Int.reduceEq, Int.reduceGE, Int.reduceGT, Int.reduceNeg, Int.reduceBEq, Int.reduceBNe, Nat.reduceEqDiff, ht, List.length_map]
          repeat refine And.intro (by first | omega | exact .inl trivial | rfl | (simp; done) | (simp; omega)) ?_
          rw [show (i : Int) + 1 = ((i + 1 : Nat) : Int) by omega]
          refine ainv (hJ (i + 1, [], out ++ [wd]) ⟨by simp only; omega, by simp, by simp; omega, fun h => by simp only at h; omega, fun _ => by simpa only [ht, cond_true] using g6⟩ (by simp only; omega)) (Shift.weakS ?_ (by simp))
          simp only [wk, go_sem, Nat.reduceAdd, Nat.reduceMul, Nat.reduceSub, Nat.reduceBEq, Nat.reduceLT, Nat.reduceLeDiff, reduceIte, reduceCtorEq, Int.reduceToNat, Int.reduceLE, Int.reduceLT, Int.reduceNe, Int.reduceMul, Int.reduceAdd, Int.reduceSub, Int.reduceDiv, Int.reduceMod, Int.reduceEq, Int.reduceGE, Int.reduceGT, Int.reduceNeg, Int.reduceBEq, Int.reduceBNe, Nat.reduceEqDiff, List.length_append, List.length_cons, List.length_nil]
        | false =>
          refine goF (N := 47) Tryz.ntmps34 300 ?_
          simp only [go_sem, Nat.reduceAdd, Nat.reduceMul, Nat.reduceSub, Nat.reduceBEq, Nat.reduceLT, Nat.reduceLeDiff, reduceIte, reduceCtorEq, Int.reduceToNat, Int.reduceLE, Int.reduceLT, Int.reduceNe, Int.reduceMul, Int.reduceAdd, Int.reduceSub, Int.reduceDiv, Int.reduceMod, Int.reduceEq, Int.reduceGE, Int.reduceGT, Int.reduceNeg, Int.reduceBEq, Int.reduceBNe, Nat.reduceEqDiff, di, dl]
          repeat refine And.intro (by first | omega | exact .inl trivial | rfl | (simp; done) | (simp; omega)) ?_
          refine pcall1 (htr) rfl (N := 47) Tryz.ntmps34 rfl (goF (N := 47) Tryz.ntmps34 300 ?_)
          simp only [go_sem, Nat.reduceAdd, Nat.reduceMul, Nat.reduceSub, Nat.reduceBEq, Nat.reduceLT, Nat.reduceLeDiff, reduceIte, reduceCtorEq, Int.reduceToNat, Int.reduceLE, Int.reduceLT, Int.reduceNe, Int.reduceMul, Int.reduceAdd, Int.reduceSub, Int.reduceDiv, Int.reduceMod, Int.reduceEq, Int.reduceGE, Int.reduceGT, Int.reduceNeg, Int.reduceBEq, Int.reduceBNe, Nat.reduceEqDiff, ht]
          repeat refine And.intro (by first | omega | exact .inl trivial | rfl | (simp; done) | (simp; omega)) ?_
          rw [show (i : Int) + 1 = ((i + 1 : Nat) : Int) by omega]
          refine ainv (hJ (i + 1, [], out) ⟨by simp only; omega, by simp, by simp only; omega, fun h => by simp only at h; omega, fun _ => by simpa only [ht, cond_false] using g6⟩ (by simp only; omega)) (Shift.weak ?_)
          simp only [wk, go_sem, Nat.reduceAdd, Nat.reduceMul, Nat.reduceSub, Nat.reduceBEq, Nat.reduceLT, Nat.reduceLeDiff, reduceIte, reduceCtorEq, Int.reduceToNat, Int.reduceLE, Int.reduceLT, Int.reduceNe, Int.reduceMul, Int.reduceAdd, Int.reduceSub, Int.reduceDiv, Int.reduceMod, Int.reduceEq, Int.reduceGE, Int.reduceGT, Int.reduceNeg, Int.reduceBEq, Int.reduceBNe, Nat.reduceEqDiff]
    · have di : decide ((i : Int) ≤ (s.length : Int)) = false := by simp; omega
      refine goF (N := 47) Tryz.ntmps34 300 ?_
      simp only [go_sem, Nat.reduceAdd, Nat.reduceMul, Nat.reduceSub, Nat.reduceBEq, Nat.reduceLT, Nat.reduceLeDiff, reduceIte, reduceCtorEq, Int.reduceToNat, Int.reduceLE, Int.reduceLT, Int.reduceNe, Int.reduceMul, Int.reduceAdd, Int.reduceSub, Int.reduceDiv, Int.reduceMod, Int.reduceEq, Int.reduceGE, Int.reduceGT, Int.reduceNeg, Int.reduceBEq, Int.reduceBNe, Nat.reduceEqDiff, di]
      exact ARet.shift (Shift.freeze 2 (id := 0) rfl rfl (by simp) (Nat.le_refl _) (frozen_strs _)) (aret [2] rfl ⟨by rw [← g5 (by omega)]; simp only [resV, Av.get, put, go_sem, Nat.reduceAdd, Nat.reduceMul, Nat.reduceSub, Nat.reduceBEq, Nat.reduceLT, Nat.reduceLeDiff, reduceIte, reduceCtorEq, Int.reduceToNat, Int.reduceLE, Int.reduceLT, Int.reduceNe, Int.reduceMul, Int.reduceAdd, Int.reduceSub, Int.reduceDiv, Int.reduceMod, Int.reduceEq, Int.reduceGE, Int.reduceGT, Int.reduceNeg, Int.reduceBEq, Int.reduceBNe, Nat.reduceEqDiff]; simp [List.take_of_length_le], rfl⟩)
end Go.Proofs.YtpjbbpilgfihbaaGreatDoor
/- Roles in a list. Own work of this seat. -/
set_option maxRecDepth 100000
set_option linter.unusedSimpArgs false
set_option linter.unusedVariables false
namespace Go.Proofs.YtpjbbpilgfihbaaGreatDoor
open Go Go.Av Go.RowKit
attribute [local go_sem ↓] br_true br_false dbr_true dbr_false dbri_true dbri_false dbrg_true dbrg_false
attribute [local go_sem] run cont br dbr dx dxc dgrd dyld dres dcall calm fieldPlace? allHas step1 opN grdN resN condN exitN stopN exitIt dOk xop xbin xint xarith xstr xbool xpick xnot xneg xextract xpart xpartOk xindex xfieldF fieldD xnew xbox xalloc xfieldAddr xptrAddIf xindexAddr xloadC xload putCells reElem xstoreB xstore xconv xtext xlen xlen2 xcall xfill xbuild cut rep xbuildSlice xbuildSliceD isRow elemD isU8 ev evs evp Go.Av.put Go.Av.get ofConst yldD yldV notBool_undef args0 cellsOf cond_true cond_false decide_true decide_false decide_eq_true_eq decide_eq_false_iff_not List.getElem?_cons_zero List.getElem?_cons_succ List.getElem?_nil List.getD_cons_zero List.getD_cons_succ List.getD_nil List.set_cons_zero List.set_cons_succ List.length_cons List.length_nil List.cons_append List.nil_append List.append_nil List.all_cons List.all_nil List.map_cons List.map_nil List.take_succ_cons List.take_zero List.drop_succ_cons List.drop_zero Bool.and_true Bool.true_and Bool.and_self Bool.and_false Bool.false_and one Go.Av.frozen beq_self_eq_true true_and and_true forall_const false_implies implies_true and_self Option.map_some Option.map_none Nat.zero_add Nat.add_zero Nat.zero_mul Nat.mul_one Nat.one_mul Int.toNat_zero ne_eq not_false_eq_true not_true_eq_false Bool.true_eq_false Bool.false_eq_true List.toList_toArray inr Go.Av.byteOf isByte decide_eq_decide Bool.not_true Bool.not_false Bool.not_eq_true' Bool.or_true Bool.true_or Bool.or_false Bool.false_or ge_iff_le gt_iff_lt and_assoc Bool.decide_eq_true beq_iff_eq beq_eq_false_iff_ne bne_iff_ne bne_self_eq_false if_true if_false Bool.and_eq_true Bool.or_eq_true Bool.and_eq_false_imp Bool.or_eq_false_iff Bool.not_eq_false' has Option.isSome_some Option.isSome_none Int.toNat_natCast Int.cast_ofNat_Int List.length_append xapp2 xapp xappS xappD xappB notInt srcOf srcB byteAV splice' xcut xcutS xcutF xcutB xcutN xcut0 cutL loOf hiOf evo xmake zelem xmax xcopy2 xcopyS xcopyB xnil xcut3 ixOf xclear2 xclearB List.getElem?_toArray xbin2 xnileq xempty xmkmap xmput xmputB xmputF isKey keyEq mfind xbin3 xeqs xeqop eqFs bothB leafEq xlook xlookB xlookF xbytes beq_c_n beq_n_c bne_c_n bne_n_c one_nil dxi dxic dbri rix dck reader blind opOk refOk Go.Op.operands Go.Call.operands List.contains_cons List.contains_nil dxg dxgc dbrg pck putD List.lookup_cons List.lookup_nil ts2 tb2 zl2 za2 Tryz.underlying2 ts3 tb3 zl3 za3 Tryz.underlying3 ts4 tb4 zl4 za4 Tryz.underlying4 ts5 tb5 zl5 za5 Tryz.underlying5 ts6 tb6 zl6 za6 Tryz.underlying6 ts7 tb7 za7 Tryz.underlying7 ts8 tb8 za8 Tryz.underlying8 ts9 tb9 zl9 za9 Tryz.underlying9 ts10 tb10 zl10 za10 Tryz.underlying10 ts11 tb11 zl11 za11 Tryz.underlying11 ts12 tb12 zl12 za12 Tryz.underlying12 ts13 tb13 za13 Tryz.underlying13 ts14 tb14 za14 Tryz.underlying14 ts18 tb18 za18 Tryz.underlying18 ts19 tb19 za19 Tryz.underlying19 ts21 tb21 zl21 za21 Tryz.underlying21 ts22 tb22 zl22 za22 Tryz.underlying22 ts24 tb24 za24 Tryz.underlying24 ts25 tb25 za25 Tryz.underlying25 ts27 tb27 zl27 za27 Tryz.underlying27 ts35 tb35 zl35 za35 Tryz.underlying35 ts36 tb36 za36 Tryz.underlying36 ts37 tb37 za37 Tryz.underlying37 ts39 tb39 zl39 za39 Tryz.underlying39 ts41 tb41 za41 Tryz.underlying41 ts42 tb42 za42 Tryz.underlying42 ts63 tb63 zl63 za63 Tryz.underlying63 ts64 tb64 zl64 za64 Tryz.underlying64 ts65 tb65 za65 Tryz.underlying65 ts66 tb66 za66 Tryz.underlying66 ts67 tb67 zl67 za67 Tryz.underlying67 ts69 tb69 za69 Tryz.underlying69 ts70 tb70 za70 Tryz.underlying70 ts73 tb73 za73 Tryz.underlying73 ts74 tb74 za74 Tryz.underlying74 ts75 tb75 zl75 za75 Tryz.underlying75 ts82 tb82 zl82 za82 Tryz.underlying82 ts96 tb96 za96 Tryz.underlying96 ts97 tb97 za97 Tryz.underlying97 ts103 tb103 za103 Tryz.underlying103 ts104 tb104 za104 Tryz.underlying104 ts109 tb109 zl109 za109 Tryz.underlying109 ts116 tb116 zl116 za116 Tryz.underlying116 ts117 tb117 za117 Tryz.underlying117 ts118 tb118 za118 Tryz.underlying118 ts120 tb120 zl120 za120 Tryz.underlying120 ts124 tb124 zl124 za124 Tryz.underlying124 ts126 tb126 za126 Tryz.underlying126 ts128 tb128 zl128 za128 Tryz.underlying128 ts130 tb130 za130 Tryz.underlying130 ts131 tb131 za131 Tryz.underlying131 ts153 tb153 zl153 za153 Tryz.underlying153 ts167 tb167 zl167 za167 Tryz.underlying167 ts171 tb171 zl171 za171 Tryz.underlying171 ts177 tb177 zl177 za177 Tryz.underlying177 ts183 tb183 zl183 za183 Tryz.underlying183 ts189 tb189 zl189 za189 Tryz.underlying189 ts191 tb191 zl191 za191 Tryz.underlying191 ts195 tb195 za195 Tryz.underlying195 ts196 tb196 za196 Tryz.underlying196 ts198 tb198 zl198 za198 Tryz.underlying198 ts203 tb203 Tryz.underlying203 ts209 tb209 za209 Tryz.underlying209 ts210 tb210 za210 Tryz.underlying210 ts211 tb211 Tryz.underlying211 ts216 tb216 za216 Tryz.underlying216 ts217 tb217 za217 Tryz.underlying217 ts220 tb220 Tryz.underlying220 ts225 tb225 Tryz.underlying225 ts226 tb226 Tryz.underlying226 ts227 tb227 za227 Tryz.underlying227 ts228 tb228 za228 Tryz.underlying228 ts232 tb232 zl232 za232 Tryz.underlying232 ts233 tb233 zl233 za233 Tryz.underlying233 ts235 tb235 zl235 za235 Tryz.underlying235 ts236 tb236 zl236 za236 Tryz.underlying236 ts237 tb237 za237 Tryz.underlying237 ts238 tb238 za238 Tryz.underlying238

structure Ro where
  name : List UInt8
  scenes : Int
  speeches : Int
  words : Int
  deriving DecidableEq
def roA (r : Ro) : AV := .agg [.str r.name, .int .i64 r.scenes, .int .i64 r.speeches, .int .i64 r.words]
theorem frozen_roles (l : List Ro) : (flat (l.map roA)).all Av.frozen = true := by
  induction l with
  | nil => rfl
  | cons y l ih => simpa [flat, cellsOf, roA, Av.frozen] using ih

end Go.Proofs.YtpjbbpilgfihbaaGreatDoor
/- The cast of a script: plain definitions. Own work of this seat. -/
set_option maxRecDepth 100000
set_option linter.unusedSimpArgs false
set_option linter.unusedVariables false
namespace Go.Proofs.YtpjbbpilgfihbaaGreatDoor
open Go Go.Av Go.RowKit

/-- a role, and the scene in which it was counted last -/
structure En where
  role : Ro
  last : Int
def e0 : En := ⟨⟨[], 0, 0, 0⟩, 0⟩
end Go.Proofs.YtpjbbpilgfihbaaGreatDoor
/- The cast of a script, walked. Own work of this seat. -/
set_option maxRecDepth 100000
set_option linter.unusedSimpArgs false
set_option linter.unusedVariables false
namespace Go.Proofs.YtpjbbpilgfihbaaGreatDoor
open Go Go.Av Go.RowKit
attribute [local go_sem ↓] br_true br_false dbr_true dbr_false dbri_true dbri_false dbrg_true dbrg_false
attribute [local go_sem] run cont br dbr dx dxc dgrd dyld dres dcall calm fieldPlace? allHas step1 opN grdN resN condN exitN stopN exitIt dOk xop xbin xint xarith xstr xbool xpick xnot xneg xextract xpart xpartOk xindex xfieldF fieldD xnew xbox xalloc xfieldAddr xptrAddIf xindexAddr xloadC xload putCells reElem xstoreB xstore xconv xtext xlen xlen2 xcall xfill xbuild cut rep xbuildSlice xbuildSliceD isRow elemD isU8 ev evs evp Go.Av.put Go.Av.get ofConst yldD yldV notBool_undef args0 cellsOf cond_true cond_false decide_true decide_false decide_eq_true_eq decide_eq_false_iff_not List.getElem?_cons_zero List.getElem?_cons_succ List.getElem?_nil List.getD_cons_zero List.getD_cons_succ List.getD_nil List.set_cons_zero List.set_cons_succ List.length_cons List.length_nil List.cons_append List.nil_append List.append_nil List.all_cons List.all_nil List.map_cons List.map_nil List.take_succ_cons List.take_zero List.drop_succ_cons List.drop_zero Bool.and_true Bool.true_and Bool.and_self Bool.and_false Bool.false_and one Go.Av.frozen beq_self_eq_true true_and and_true forall_const false_implies implies_true and_self Option.map_some Option.map_none Nat.zero_add Nat.add_zero Nat.zero_mul Nat.mul_one Nat.one_mul Int.toNat_zero ne_eq not_false_eq_true not_true_eq_false Bool.true_eq_false Bool.false_eq_true List.toList_toArray inr Go.Av.byteOf isByte decide_eq_decide Bool.not_true Bool.not_false Bool.not_eq_true' Bool.or_true Bool.true_or Bool.or_false Bool.false_or ge_iff_le gt_iff_lt and_assoc Bool.decide_eq_true beq_iff_eq beq_eq_false_iff_ne bne_iff_ne bne_self_eq_false if_true if_false Bool.and_eq_true Bool.or_eq_true Bool.and_eq_false_imp Bool.or_eq_false_iff Bool.not_eq_false' has Option.isSome_some Option.isSome_none Int.toNat_natCast Int.cast_ofNat_Int List.length_append xapp2 xapp xappS xappD xappB notInt srcOf srcB byteAV splice' xcut xcutS xcutF xcutB xcutN xcut0 cutL loOf hiOf evo xmake zelem xmax xcopy2 xcopyS xcopyB xnil xcut3 ixOf xclear2 xclearB List.getElem?_toArray xbin2 xnileq xempty xmkmap xmput xmputB xmputF isKey keyEq mfind xbin3 xeqs xeqop eqFs bothB leafEq xlook xlookB xlookF xbytes beq_c_n beq_n_c bne_c_n bne_n_c one_nil dxi dxic dbri rix dck reader blind opOk refOk Go.Op.operands Go.Call.operands List.contains_cons List.contains_nil dxg dxgc dbrg pck putD List.lookup_cons List.lookup_nil ts2 tb2 zl2 za2 Tryz.underlying2 ts3 tb3 zl3 za3 Tryz.underlying3 ts4 tb4 zl4 za4 Tryz.underlying4 ts5 tb5 zl5 za5 Tryz.underlying5 ts6 tb6 zl6 za6 Tryz.underlying6 ts7 tb7 za7 Tryz.underlying7 ts8 tb8 za8 Tryz.underlying8 ts9 tb9 zl9 za9 Tryz.underlying9 ts10 tb10 zl10 za10 Tryz.underlying10 ts11 tb11 zl11 za11 Tryz.underlying11 ts12 tb12 zl12 za12 Tryz.underlying12 ts13 tb13 za13 Tryz.underlying13 ts14 tb14 za14 Tryz.underlying14 ts18 tb18 za18 Tryz.underlying18 ts19 tb19 za19 Tryz.underlying19 ts21 tb21 zl21 za21 Tryz.underlying21 ts22 tb22 zl22 za22 Tryz.underlying22 ts24 tb24 za24 Tryz.underlying24 ts25 tb25 za25 Tryz.underlying25 ts27 tb27 zl27 za27 Tryz.underlying27 ts35 tb35 zl35 za35 Tryz.underlying35 ts36 tb36 za36 Tryz.underlying36 ts37 tb37 za37 Tryz.underlying37 ts39 tb39 zl39 za39 Tryz.underlying39 ts41 tb41 za41 Tryz.underlying41 ts42 tb42 za42 Tryz.underlying42 ts63 tb63 zl63 za63 Tryz.underlying63 ts64 tb64 zl64 za64 Tryz.underlying64 ts65 tb65 za65 Tryz.underlying65 ts66 tb66 za66 Tryz.underlying66 ts67 tb67 zl67 za67 Tryz.underlying67 ts69 tb69 za69 Tryz.underlying69 ts70 tb70 za70 Tryz.underlying70 ts73 tb73 za73 Tryz.underlying73 ts74 tb74 za74 Tryz.underlying74 ts75 tb75 zl75 za75 Tryz.underlying75 ts82 tb82 zl82 za82 Tryz.underlying82 ts96 tb96 za96 Tryz.underlying96 ts97 tb97 za97 Tryz.underlying97 ts103 tb103 za103 Tryz.underlying103 ts104 tb104 za104 Tryz.underlying104 ts109 tb109 zl109 za109 Tryz.underlying109 ts116 tb116 zl116 za116 Tryz.underlying116 ts117 tb117 za117 Tryz.underlying117 ts118 tb118 za118 Tryz.underlying118 ts120 tb120 zl120 za120 Tryz.underlying120 ts124 tb124 zl124 za124 Tryz.underlying124 ts126 tb126 za126 Tryz.underlying126 ts128 tb128 zl128 za128 Tryz.underlying128 ts130 tb130 za130 Tryz.underlying130 ts131 tb131 za131 Tryz.underlying131 ts153 tb153 zl153 za153 Tryz.underlying153 ts167 tb167 zl167 za167 Tryz.underlying167 ts171 tb171 zl171 za171 Tryz.underlying171 ts177 tb177 zl177 za177 Tryz.underlying177 ts183 tb183 zl183 za183 Tryz.underlying183 ts189 tb189 zl189 za189 Tryz.underlying189 ts191 tb191 zl191 za191 Tryz.underlying191 ts195 tb195 za195 Tryz.underlying195 ts196 tb196 za196 Tryz.underlying196 ts198 tb198 zl198 za198 Tryz.underlying198 ts203 tb203 Tryz.underlying203 ts209 tb209 za209 Tryz.underlying209 ts210 tb210 za210 Tryz.underlying210 ts211 tb211 Tryz.underlying211 ts216 tb216 za216 Tryz.underlying216 ts217 tb217 za217 Tryz.underlying217 ts220 tb220 Tryz.underlying220 ts225 tb225 Tryz.underlying225 ts226 tb226 Tryz.underlying226 ts227 tb227 za227 Tryz.underlying227 ts228 tb228 za228 Tryz.underlying228 ts232 tb232 zl232 za232 Tryz.underlying232 ts233 tb233 zl233 za233 Tryz.underlying233 ts235 tb235 zl235 za235 Tryz.underlying235 ts236 tb236 zl236 za236 Tryz.underlying236 ts237 tb237 za237 Tryz.underlying237 ts238 tb238 za238 Tryz.underlying238

/-- bounds of what is counted -/
def Bd (c : Nat) (es : List En) : Prop := es.length ≤ c ∧ ∀ e ∈ es, (0 ≤ e.role.scenes ∧ e.role.scenes ≤ c) ∧ (0 ≤ e.role.speeches ∧ e.role.speeches ≤ c) ∧ (0 ≤ e.role.words ∧ e.role.words ≤ 2001 * c)
theorem Bd.mono {c d : Nat} {es : List En} (h : Bd c es) (hd : c ≤ d) : Bd d es :=
  ⟨by have := h.1; omega, fun e he => by have := h.2 e he; omega⟩
theorem Bd.at {c : Nat} {es : List En} (h : Bd c es) {k : Nat} (hk : k < es.length) : (0 ≤ (es.getD k e0).role.scenes ∧ (es.getD k e0).role.scenes ≤ c) ∧ (0 ≤ (es.getD k e0).role.speeches ∧ (es.getD k e0).role.speeches ≤ c) ∧ (0 ≤ (es.getD k e0).role.words ∧ (es.getD k e0).role.words ≤ 2001 * c) := by
  have : es.getD k e0 = es[k] := by simp [List.getD, hk]
  rw [this]; exact h.2 _ (List.getElem_mem hk)
theorem Bd.set {c : Nat} {es : List En} (h : Bd c es) (k : Nat) (e : En) (he : (0 ≤ e.role.scenes ∧ e.role.scenes ≤ c) ∧ (0 ≤ e.role.speeches ∧ e.role.speeches ≤ c) ∧ (0 ≤ e.role.words ∧ e.role.words ≤ 2001 * c)) : Bd c (es.set k e) :=
  ⟨by simpa using h.1, fun x hx => by
    rcases List.mem_or_eq_of_mem_set hx with h1 | h1
    · exact h.2 x h1
    · rw [h1]; exact he⟩

theorem low_roles (n : Nat) (l : List Ro) : lowB n (.arr 4 (l.map roA)) = true := low_all (frozen_roles l)
theorem low_box (n : Nat) (ti : List UInt8) (l : List AV) : lowB n (.arr 2 [.agg [.str ti, .fz 5 l]]) = true := rfl
end Go.Proofs.YtpjbbpilgfihbaaGreatDoor
/- Who speaks, told by the references. Own work of this seat. -/
set_option maxRecDepth 100000
set_option linter.unusedSimpArgs false
set_option linter.unusedVariables false
namespace Go.Proofs.YtpjbbpilgfihbaaGreatDoor
open Go Go.Av Go.RowKit
attribute [local go_sem ↓] br_true br_false dbr_true dbr_false dbri_true dbri_false dbrg_true dbrg_false
attribute [local go_sem] run cont br dbr dx dxc dgrd dyld dres dcall calm fieldPlace? allHas step1 opN grdN resN condN exitN stopN exitIt dOk xop xbin xint xarith xstr xbool xpick xnot xneg xextract xpart xpartOk xindex xfieldF fieldD xnew xbox xalloc xfieldAddr xptrAddIf xindexAddr xloadC xload putCells reElem xstoreB xstore xconv xtext xlen xlen2 xcall xfill xbuild cut rep xbuildSlice xbuildSliceD isRow elemD isU8 ev evs evp Go.Av.put Go.Av.get ofConst yldD yldV notBool_undef args0 cellsOf cond_true cond_false decide_true decide_false decide_eq_true_eq decide_eq_false_iff_not List.getElem?_cons_zero List.getElem?_cons_succ List.getElem?_nil List.getD_cons_zero List.getD_cons_succ List.getD_nil List.set_cons_zero List.set_cons_succ List.length_cons List.length_nil List.cons_append List.nil_append List.append_nil List.all_cons List.all_nil List.map_cons List.map_nil List.take_succ_cons List.take_zero List.drop_succ_cons List.drop_zero Bool.and_true Bool.true_and Bool.and_self Bool.and_false Bool.false_and one Go.Av.frozen beq_self_eq_true true_and and_true forall_const false_implies implies_true and_self Option.map_some Option.map_none Nat.zero_add Nat.add_zero Nat.zero_mul Nat.mul_one Nat.one_mul Int.toNat_zero ne_eq not_false_eq_true not_true_eq_false Bool.true_eq_false Bool.false_eq_true List.toList_toArray inr Go.Av.byteOf isByte decide_eq_decide Bool.not_true Bool.not_false Bool.not_eq_true' Bool.or_true Bool.true_or Bool.or_false Bool.false_or ge_iff_le gt_iff_lt and_assoc Bool.decide_eq_true beq_iff_eq beq_eq_false_iff_ne bne_iff_ne bne_self_eq_false if_true if_false Bool.and_eq_true Bool.or_eq_true Bool.and_eq_false_imp Bool.or_eq_false_iff Bool.not_eq_false' has Option.isSome_some Option.isSome_none Int.toNat_natCast Int.cast_ofNat_Int List.length_append xapp2 xapp xappS xappD xappB notInt srcOf srcB byteAV splice' xcut xcutS xcutF xcutB xcutN xcut0 cutL loOf hiOf evo xmake zelem xmax xcopy2 xcopyS xcopyB xnil xcut3 ixOf xclear2 xclearB List.getElem?_toArray xbin2 xnileq xempty xmkmap xmput xmputB xmputF isKey keyEq mfind xbin3 xeqs xeqop eqFs bothB leafEq xlook xlookB xlookF xbytes beq_c_n beq_n_c bne_c_n bne_n_c one_nil dxi dxic dbri rix dck reader blind opOk refOk Go.Op.operands Go.Call.operands List.contains_cons List.contains_nil dxg dxgc dbrg pck putD List.lookup_cons List.lookup_nil ts2 tb2 zl2 za2 Tryz.underlying2 ts3 tb3 zl3 za3 Tryz.underlying3 ts4 tb4 zl4 za4 Tryz.underlying4 ts5 tb5 zl5 za5 Tryz.underlying5 ts6 tb6 zl6 za6 Tryz.underlying6 ts7 tb7 za7 Tryz.underlying7 ts8 tb8 za8 Tryz.underlying8 ts9 tb9 zl9 za9 Tryz.underlying9 ts10 tb10 zl10 za10 Tryz.underlying10 ts11 tb11 zl11 za11 Tryz.underlying11 ts12 tb12 zl12 za12 Tryz.underlying12 ts13 tb13 za13 Tryz.underlying13 ts14 tb14 za14 Tryz.underlying14 ts18 tb18 za18 Tryz.underlying18 ts19 tb19 za19 Tryz.underlying19 ts21 tb21 zl21 za21 Tryz.underlying21 ts22 tb22 zl22 za22 Tryz.underlying22 ts24 tb24 za24 Tryz.underlying24 ts25 tb25 za25 Tryz.underlying25 ts27 tb27 zl27 za27 Tryz.underlying27 ts35 tb35 zl35 za35 Tryz.underlying35 ts36 tb36 za36 Tryz.underlying36 ts37 tb37 za37 Tryz.underlying37 ts39 tb39 zl39 za39 Tryz.underlying39 ts41 tb41 za41 Tryz.underlying41 ts42 tb42 za42 Tryz.underlying42 ts63 tb63 zl63 za63 Tryz.underlying63 ts64 tb64 zl64 za64 Tryz.underlying64 ts65 tb65 za65 Tryz.underlying65 ts66 tb66 za66 Tryz.underlying66 ts67 tb67 zl67 za67 Tryz.underlying67 ts69 tb69 za69 Tryz.underlying69 ts70 tb70 za70 Tryz.underlying70 ts73 tb73 za73 Tryz.underlying73 ts74 tb74 za74 Tryz.underlying74 ts75 tb75 zl75 za75 Tryz.underlying75 ts82 tb82 zl82 za82 Tryz.underlying82 ts96 tb96 za96 Tryz.underlying96 ts97 tb97 za97 Tryz.underlying97 ts103 tb103 za103 Tryz.underlying103 ts104 tb104 za104 Tryz.underlying104 ts109 tb109 zl109 za109 Tryz.underlying109 ts116 tb116 zl116 za116 Tryz.underlying116 ts117 tb117 za117 Tryz.underlying117 ts118 tb118 za118 Tryz.underlying118 ts120 tb120 zl120 za120 Tryz.underlying120 ts124 tb124 zl124 za124 Tryz.underlying124 ts126 tb126 za126 Tryz.underlying126 ts128 tb128 zl128 za128 Tryz.underlying128 ts130 tb130 za130 Tryz.underlying130 ts131 tb131 za131 Tryz.underlying131 ts153 tb153 zl153 za153 Tryz.underlying153 ts167 tb167 zl167 za167 Tryz.underlying167 ts171 tb171 zl171 za171 Tryz.underlying171 ts177 tb177 zl177 za177 Tryz.underlying177 ts183 tb183 zl183 za183 Tryz.underlying183 ts189 tb189 zl189 za189 Tryz.underlying189 ts191 tb191 zl191 za191 Tryz.underlying191 ts195 tb195 za195 Tryz.underlying195 ts196 tb196 za196 Tryz.underlying196 ts198 tb198 zl198 za198 Tryz.underlying198 ts203 tb203 Tryz.underlying203 ts209 tb209 za209 Tryz.underlying209 ts210 tb210 za210 Tryz.underlying210 ts211 tb211 Tryz.underlying211 ts216 tb216 za216 Tryz.underlying216 ts217 tb217 za217 Tryz.underlying217 ts220 tb220 Tryz.underlying220 ts225 tb225 Tryz.underlying225 ts226 tb226 Tryz.underlying226 ts227 tb227 za227 Tryz.underlying227 ts228 tb228 za228 Tryz.underlying228 ts232 tb232 zl232 za232 Tryz.underlying232 ts233 tb233 zl233 za233 Tryz.underlying233 ts235 tb235 zl235 za235 Tryz.underlying235 ts236 tb236 zl236 za236 Tryz.underlying236 ts237 tb237 za237 Tryz.underlying237 ts238 tb238 za238 Tryz.underlying238

theorem castFn_ct (b0 bm br b3 : Blk) (h0 : lowB 5 b0 = true) (hm : lowB 5 bm = true) (hr : lowB 5 br = true) (h3 : lowB 5 b3 = true) (g : Gp) (r : Ro) :
    Ct Tryz.prog 33 [roA r, .ptr 4 1 0 0] [b0, bm, br, b3, .arr 3 [gpA g]] (fun v s => v = .bool (r.name == g.name) ∧ s = [b0, bm, br, b3, .arr 3 [gpA g]]) := by
  simp only [roA]
  refine ct_intro Tryz.func33 rfl Tryz.ntmps33 hB33 (by simp) fun h ρ w => go (N := 9) Tryz.ntmps33 300 ?_
  simp only [go_sem, Nat.reduceAdd, Nat.reduceMul, Nat.reduceSub, Nat.reduceBEq, Nat.reduceLT, Nat.reduceLeDiff, reduceIte, reduceCtorEq, Int.reduceToNat, Int.reduceLE, Int.reduceLT, Int.reduceNe, Int.reduceMul, Int.reduceAdd, Int.reduceSub, Int.reduceDiv, Int.reduceMod, Int.reduceEq, Int.reduceGE, Int.reduceGT, Int.reduceNeg, Int.reduceBEq, Int.reduceBNe, Nat.reduceEqDiff, gpA]
  refine ARet.shift (Shift.low 5 (e' := [(3, .bool (r.name == g.name))]) (by simp) (by simp) ?_ ?_) (aret [3] rfl ⟨rfl, rfl⟩)
  · have := low_gps 5 [g]
    simp only [List.map_cons, List.map_nil, gpA] at this
    simp only [List.take_succ_cons, List.take_zero, List.all_cons, List.all_nil, h0, hm, hr, h3, this, Bool.and_self]
  · simp only [wkl, lowV, lowC, Av.get, go_sem, Nat.reduceAdd, Nat.reduceMul, Nat.reduceSub, Nat.reduceBEq, Nat.reduceLT, Nat.reduceLeDiff, reduceIte, reduceCtorEq, Int.reduceToNat, Int.reduceLE, Int.reduceLT, Int.reduceNe, Int.reduceMul, Int.reduceAdd, Int.reduceSub, Int.reduceDiv, Int.reduceMod, Int.reduceEq, Int.reduceGE, Int.reduceGT, Int.reduceNeg, Int.reduceBEq, Int.reduceBNe, Nat.reduceEqDiff]

theorem idxRole_ct (b0 bm b3 : Blk) (h0 : lowB 5 b0 = true) (hm : lowB 5 bm = true) (h3 : lowB 5 b3 = true) (g : Gp) (rs : List Ro) (hl : rs.length < 100000000) :
    Ct Tryz.prog 32 [.sl 2 0 rs.length rs.length, .fn (.func 33) [.ptr 4 1 0 0]] [b0, bm, .arr 4 (rs.map roA), b3, .arr 3 [gpA g]]
      (fun v s => (∃ k : Int, v = .int .i64 k ∧ (k < 0 ∨ (0 ≤ k ∧ k < rs.length)) ∧ (-1 ≤ k)) ∧ s = [b0, bm, .arr 4 (rs.map roA), b3, .arr 3 [gpA g]]) := by
  refine ct_intro Tryz.func32 rfl Tryz.ntmps32 hB32 (by simp) fun h ρ w => go (N := 19) Tryz.ntmps32 300 ?_
  simp only [go_sem, Nat.reduceAdd, Nat.reduceMul, Nat.reduceSub, Nat.reduceBEq, Nat.reduceLT, Nat.reduceLeDiff, reduceIte, reduceCtorEq, Int.reduceToNat, Int.reduceLE, Int.reduceLT, Int.reduceNe, Int.reduceMul, Int.reduceAdd, Int.reduceSub, Int.reduceDiv, Int.reduceMod, Int.reduceEq, Int.reduceGE, Int.reduceGT, Int.reduceNeg, Int.reduceBEq, Int.reduceBNe, Nat.reduceEqDiff, List.length_map]
  refine aloop (ι := Nat) (fun i => rs.length - i) (fun i => [(8, .int .i64 i), (7, .int .i64 rs.length), (1, .fn (.func 33) [.ptr 4 1 0 0]), (0, .sl 2 0 rs.length rs.length)]) (fun _ => [b0, bm, .arr 4 (rs.map roA), b3, .arr 3 [gpA g]]) (fun i => i ≤ rs.length) 0 (by simp) ?_ ?_
  · refine Shift.weak ?_
    simp only [wk, go_sem, Nat.reduceAdd, Nat.reduceMul, Nat.reduceSub, Nat.reduceBEq, Nat.reduceLT, Nat.reduceLeDiff, reduceIte, reduceCtorEq, Int.reduceToNat, Int.reduceLE, Int.reduceLT, Int.reduceNe, Int.reduceMul, Int.reduceAdd, Int.reduceSub, Int.reduceDiv, Int.reduceMod, Int.reduceEq, Int.reduceGE, Int.reduceGT, Int.reduceNeg, Int.reduceBEq, Int.reduceBNe, Nat.reduceEqDiff]
  · intro i g1 J hJ
    by_cases gi : i < rs.length
    · have di : decide ((i : Int) < (rs.length : Int)) = true := by simp; omega
      have hg' : List.getD (List.map roA rs) i .any = .agg [.str rs[i].name, .int .i64 rs[i].scenes, .int .i64 rs[i].speeches, .int .i64 rs[i].words] := by simp [List.getD, gi, roA]
      have hf := castFn_ct b0 bm (.arr 4 (rs.map roA)) b3 h0 hm (low_roles 5 rs) h3 g rs[i]
      simp only [roA] at hf
      refine go (N := 19) Tryz.ntmps32 300 ?_
      simp only [go_sem, Nat.reduceAdd, Nat.reduceMul, Nat.reduceSub, Nat.reduceBEq, Nat.reduceLT, Nat.reduceLeDiff, reduceIte, reduceCtorEq, Int.reduceToNat, Int.reduceLE, Int.reduceLT, Int.reduceNe, Int.reduceMul, Int.reduceAdd, Int.reduceSub, Int.reduceDiv, Int.reduceMod, Int.reduceEq, Int.reduceGE, Int.reduceGT, Int.reduceNeg, Int.reduceBEq, Int.reduceBNe, Nat.reduceEqDiff, di, hg', List.length_map]
      repeat refine And.intro (by first | omega | exact .inl trivial | rfl | (simp; done) | (simp; omega)) ?_
      refine acall (hf) (N := 19) Tryz.ntmps32 rfl ?_
      rintro _ _ ⟨rfl, rfl⟩
      refine go (N := 19) Tryz.ntmps32 300 ?_
      cases hq : rs[i].name == g.name with
      | true =>
        simp only [go_sem, Nat.reduceAdd, Nat.reduceMul, Nat.reduceSub, Nat.reduceBEq, Nat.reduceLT, Nat.reduceLeDiff, reduceIte, reduceCtorEq, Int.reduceToNat, Int.reduceLE, Int.reduceLT, Int.reduceNe, Int.reduceMul, Int.reduceAdd, Int.reduceSub, Int.reduceDiv, Int.reduceMod, Int.reduceEq, Int.reduceGE, Int.reduceGT, Int.reduceNeg, Int.reduceBEq, Int.reduceBNe, Nat.reduceEqDiff, hq]
        exact aret [4] rfl ⟨⟨i, rfl, .inr ⟨by omega, by omega⟩, by omega⟩, rfl⟩
      | false =>
        simp only [go_sem, Nat.reduceAdd, Nat.reduceMul, Nat.reduceSub, Nat.reduceBEq, Nat.reduceLT, Nat.reduceLeDiff, reduceIte, reduceCtorEq, Int.reduceToNat, Int.reduceLE, Int.reduceLT, Int.reduceNe, Int.reduceMul, Int.reduceAdd, Int.reduceSub, Int.reduceDiv, Int.reduceMod, Int.reduceEq, Int.reduceGE, Int.reduceGT, Int.reduceNeg, Int.reduceBEq, Int.reduceBNe, Nat.reduceEqDiff, hq]
        repeat refine And.intro (by first | omega | exact .inl trivial | rfl | (simp; done) | (simp; omega)) ?_
        rw [show (i : Int) + 1 = ((i + 1 : Nat) : Int) by omega]
        refine ainv (hJ (i + 1) (by omega) (by omega)) (Shift.weak ?_)
        simp only [wk, go_sem, Nat.reduceAdd, Nat.reduceMul, Nat.reduceSub, Nat.reduceBEq, Nat.reduceLT, Nat.reduceLeDiff, reduceIte, reduceCtorEq, Int.reduceToNat, Int.reduceLE, Int.reduceLT, Int.reduceNe, Int.reduceMul, Int.reduceAdd, Int.reduceSub, Int.reduceDiv, Int.reduceMod, Int.reduceEq, Int.reduceGE, Int.reduceGT, Int.reduceNeg, Int.reduceBEq, Int.reduceBNe, Nat.reduceEqDiff]
    · have di : decide ((i : Int) < (rs.length : Int)) = false := by simp; omega
      refine go (N := 19) Tryz.ntmps32 300 ?_
      simp only [go_sem, Nat.reduceAdd, Nat.reduceMul, Nat.reduceSub, Nat.reduceBEq, Nat.reduceLT, Nat.reduceLeDiff, reduceIte, reduceCtorEq, Int.reduceToNat, Int.reduceLE, Int.reduceLT, Int.reduceNe, Int.reduceMul, Int.reduceAdd, Int.reduceSub, Int.reduceDiv, Int.reduceMod, Int.reduceEq, Int.reduceGE, Int.reduceGT, Int.reduceNeg, Int.reduceBEq, Int.reduceBNe, Nat.reduceEqDiff, di]
      exact aret [4] rfl ⟨⟨-1, rfl, .inl (by omega), by omega⟩, rfl⟩
end Go.Proofs.YtpjbbpilgfihbaaGreatDoor
/- Where two ways of a statement meet: told once. Own work of this seat. -/
set_option linter.unusedSimpArgs false
set_option linter.unusedVariables false
namespace Go.Av
open Go Go.RowKit

theorem acut {c : Cx} {x : It} {B : Code} {k : List It} {e : Env} {s : List Blk} {ι : Type} (E : ι → Env) (S : ι → List Blk) (H : ι → Prop)
    (h1 : ∀ J : Act → World → Prop, (∀ y, H y → ∀ a w, Sim c (E y) (S y) a w → J a w) → AWp c (x :: .inv J :: k) e s)
    (h2 : ∀ y, H y → AWp c (.code B :: k) (E y) (S y)) : AWp c (x :: .code B :: k) e s := by
  intro a w hs
  have h := h1 (fun a w => B.wp c.P (WQ c k) a w) (fun y hy a w hs => h2 y hy a w hs) a w hs
  have e1 : WQ c (.inv (fun a w => B.wp c.P (WQ c k) a w) :: k) = WQ c (.code B :: k) := by
    funext en a w
    cases en <;> rfl
  have e2 : WQ c (x :: .inv (fun a w => B.wp c.P (WQ c k) a w) :: k) = WQ c (x :: .code B :: k) := by
    funext en a w
    cases en <;> simp only [WQ, e1]
  rw [e2] at h
  exact h
end Go.Av
