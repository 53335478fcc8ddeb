/- Numbers of scenes: what they are, divided, compared. Own work of this seat. -/
import Derived.Test.YtpjbbpilgfihbaaGreatDoorBd
import Derived.Test.YtpjbbpilgfihbaaGreatDoorAvLp
import Derived.Lib.AtoiErrMem
set_option maxRecDepth 100000
set_option linter.unusedSimpArgs false
set_option linter.unusedVariables false
namespace Go.Proofs.YtpjbbpilgfihbaaGreatDoor
open Go Go.Av Go.RowKit
attribute [local go_sem ↓] br_true br_false dbr_true dbr_false
attribute [local go_sem] run cont br dbr dx dxc dgrd dyld dres dcall calm fieldPlace? allHas step1 opN grdN resN condN exitN stopN exitIt dOk xop xbin xint xarith xstr xbool xpick xnot xneg xextract xpart xpartOk xindex xfieldF fieldD xnew xbox xalloc xfieldAddr xptrAddIf xindexAddr xloadC xload putCells reElem xstoreB xstore xconv xtext xlen xlen2 xcall xfill xbuild cut rep xbuildSlice xbuildSliceD isRow elemD isU8 ev evs evp Go.Av.put Go.Av.get ofConst yldD yldV notBool_undef args0 cellsOf cond_true cond_false decide_true decide_false decide_eq_true_eq decide_eq_false_iff_not List.getElem?_cons_zero List.getElem?_cons_succ List.getElem?_nil List.getD_cons_zero List.getD_cons_succ List.getD_nil List.set_cons_zero List.set_cons_succ List.length_cons List.length_nil List.cons_append List.nil_append List.append_nil List.all_cons List.all_nil List.map_cons List.map_nil List.take_succ_cons List.take_zero List.drop_succ_cons List.drop_zero Bool.and_true Bool.true_and Bool.and_self Bool.and_false Bool.false_and one Go.Av.frozen beq_self_eq_true true_and and_true forall_const false_implies implies_true and_self Option.map_some Option.map_none Nat.zero_add Nat.add_zero Nat.zero_mul Nat.mul_one Nat.one_mul Int.toNat_zero ne_eq not_false_eq_true not_true_eq_false Bool.true_eq_false Bool.false_eq_true List.toList_toArray inr Go.Av.byteOf isByte decide_eq_decide Bool.not_true Bool.not_false Bool.not_eq_true' Bool.or_true Bool.true_or Bool.or_false Bool.false_or ge_iff_le gt_iff_lt and_assoc Bool.decide_eq_true beq_iff_eq beq_eq_false_iff_ne bne_iff_ne bne_self_eq_false if_true if_false Bool.and_eq_true Bool.or_eq_true Bool.and_eq_false_imp Bool.or_eq_false_iff Bool.not_eq_false' has Option.isSome_some Option.isSome_none Int.toNat_natCast Int.cast_ofNat_Int List.length_append xapp2 xapp xappS xappD xappB notInt srcOf srcB byteAV splice' xcut xcutS xcutF xcutB xcutN xcut0 cutL loOf hiOf evo xmake zelem xmax xcopy2 xcopyS xcopyB xnil xcut3 ixOf xclear2 xclearB List.getElem?_toArray xbin2 xnileq xempty xmkmap xmput xmputB xmputF isKey keyEq mfind xbin3 xeqs xeqop eqFs bothB leafEq xlook xlookB xlookF xbytes beq_c_n beq_n_c bne_c_n bne_n_c one_nil ts2 tb2 zl2 za2 Tryz.underlying2 ts3 tb3 zl3 za3 Tryz.underlying3 ts4 tb4 zl4 za4 Tryz.underlying4 ts5 tb5 zl5 za5 Tryz.underlying5 ts6 tb6 zl6 za6 Tryz.underlying6 ts7 tb7 za7 Tryz.underlying7 ts8 tb8 za8 Tryz.underlying8 ts9 tb9 zl9 za9 Tryz.underlying9 ts10 tb10 zl10 za10 Tryz.underlying10 ts11 tb11 zl11 za11 Tryz.underlying11 ts12 tb12 zl12 za12 Tryz.underlying12 ts13 tb13 za13 Tryz.underlying13 ts14 tb14 za14 Tryz.underlying14 ts18 tb18 za18 Tryz.underlying18 ts19 tb19 za19 Tryz.underlying19 ts21 tb21 zl21 za21 Tryz.underlying21 ts22 tb22 zl22 za22 Tryz.underlying22 ts24 tb24 za24 Tryz.underlying24 ts25 tb25 za25 Tryz.underlying25 ts27 tb27 zl27 za27 Tryz.underlying27 ts35 tb35 zl35 za35 Tryz.underlying35 ts36 tb36 za36 Tryz.underlying36 ts37 tb37 za37 Tryz.underlying37 ts39 tb39 zl39 za39 Tryz.underlying39 ts41 tb41 za41 Tryz.underlying41 ts42 tb42 za42 Tryz.underlying42 ts63 tb63 zl63 za63 Tryz.underlying63 ts64 tb64 zl64 za64 Tryz.underlying64 ts65 tb65 za65 Tryz.underlying65 ts66 tb66 za66 Tryz.underlying66 ts67 tb67 zl67 za67 Tryz.underlying67 ts69 tb69 za69 Tryz.underlying69 ts70 tb70 za70 Tryz.underlying70 ts73 tb73 za73 Tryz.underlying73 ts74 tb74 za74 Tryz.underlying74 ts75 tb75 zl75 za75 Tryz.underlying75 ts82 tb82 zl82 za82 Tryz.underlying82 ts96 tb96 za96 Tryz.underlying96 ts97 tb97 za97 Tryz.underlying97 ts103 tb103 za103 Tryz.underlying103 ts104 tb104 za104 Tryz.underlying104 ts109 tb109 zl109 za109 Tryz.underlying109 ts116 tb116 zl116 za116 Tryz.underlying116 ts117 tb117 za117 Tryz.underlying117 ts118 tb118 za118 Tryz.underlying118 ts120 tb120 zl120 za120 Tryz.underlying120 ts124 tb124 zl124 za124 Tryz.underlying124 ts126 tb126 za126 Tryz.underlying126 ts128 tb128 zl128 za128 Tryz.underlying128 ts130 tb130 za130 Tryz.underlying130 ts131 tb131 za131 Tryz.underlying131 ts153 tb153 zl153 za153 Tryz.underlying153 ts167 tb167 zl167 za167 Tryz.underlying167 ts171 tb171 zl171 za171 Tryz.underlying171 ts177 tb177 zl177 za177 Tryz.underlying177 ts183 tb183 zl183 za183 Tryz.underlying183 ts189 tb189 zl189 za189 Tryz.underlying189 ts191 tb191 zl191 za191 Tryz.underlying191 ts195 tb195 za195 Tryz.underlying195 ts196 tb196 za196 Tryz.underlying196 ts198 tb198 zl198 za198 Tryz.underlying198 ts203 tb203 Tryz.underlying203 ts209 tb209 za209 Tryz.underlying209 ts210 tb210 za210 Tryz.underlying210 ts211 tb211 Tryz.underlying211 ts216 tb216 za216 Tryz.underlying216 ts217 tb217 za217 Tryz.underlying217 ts220 tb220 Tryz.underlying220 ts225 tb225 Tryz.underlying225 ts226 tb226 Tryz.underlying226 ts227 tb227 za227 Tryz.underlying227 ts228 tb228 za228 Tryz.underlying228 ts232 tb232 zl232 za232 Tryz.underlying232 ts233 tb233 zl233 za233 Tryz.underlying233 ts235 tb235 zl235 za235 Tryz.underlying235 ts236 tb236 zl236 za236 Tryz.underlying236 ts237 tb237 za237 Tryz.underlying237 ts238 tb238 za238 Tryz.underlying238

def digB (c : UInt8) : Bool := digI c.toNat
def capB (c : UInt8) : Bool := capI c.toNat
def digs (s : List UInt8) : List UInt8 := s.takeWhile digB
def caps (s : List UInt8) : List UInt8 := s.dropWhile digB

theorem takeWhile_at {p : UInt8 → Bool} : ∀ {s : List UInt8} {k : Nat}, k ≤ s.length → (s.take k).all p = true → (k = s.length ∨ p (s.getD k 0) = false) → s.takeWhile p = s.take k ∧ s.dropWhile p = s.drop k
  | [], k, hk, _, _ => by simp
  | c :: s, 0, _, _, e => by
    rcases e with e | e
    · simp at e
    · simp at e; simp [e]
  | c :: s, k + 1, hk, h, e => by
    simp only [List.take_succ_cons, List.all_cons, Bool.and_eq_true] at h
    have ih := takeWhile_at (s := s) (k := k) (by simpa using hk) h.2 (by simpa using e)
    simp [h.1, ih.1, ih.2]

def numberL (s : List UInt8) : Bool :=
  (caps s).all capB && (!(decide (((caps s).length : Int) > 5) || Lib.hasSuffix (caps s) [65]) &&
    (if digs s = [48] then caps s != [] else decide (1 ≤ (digs s).length) && (decide ((digs s).length ≤ 3) && ((s.getD 0 0).toNat : Int) != 48)))

set_option maxHeartbeats 1000000 in
theorem isNumber_pc' (s : List UInt8) (hs : s.length < 1000000) : Pc Tryz.prog 24 [.str s] (· = .bool (numberL s)) := by
  refine pc_intro (ct_intro Tryz.func24 rfl Tryz.ntmps24 hB24 (by simp) fun h ρ w => go (N := 56) Tryz.ntmps24 300 ?_)
  simp only [go_sem, Nat.reduceAdd, Nat.reduceMul, Nat.reduceSub, Nat.reduceBEq, Nat.reduceLT, Nat.reduceLeDiff, reduceIte, reduceCtorEq, Int.reduceToNat, Int.reduceLE, Int.reduceLT, Int.reduceNe, Int.reduceMul, Int.reduceAdd, Int.reduceSub, Int.reduceDiv, Int.reduceMod, Int.reduceEq, Int.reduceGE, Int.reduceGT, Int.reduceNeg, Int.reduceBEq, Int.reduceBNe, Nat.reduceEqDiff]
  refine aloopX (ι := Nat) (κ := Unit) (fun i => s.length - i) (fun i => [(3, .int .i64 i), (0, .str s)]) (fun _ => []) (fun i => i ≤ s.length ∧ (s.take i).all digB = true)
    (fun _ => [(3, .int .i64 (digs s).length), (0, .str s)]) (fun _ => []) (fun _ => s = digs s ++ caps s) 0 ⟨by omega, by simp⟩ ?_ ?_ ?_
  · refine Shift.weak ?_
    simp only [wk, go_sem, Nat.reduceAdd, Nat.reduceMul, Nat.reduceSub, Nat.reduceBEq, Nat.reduceLT, Nat.reduceLeDiff, reduceIte, reduceCtorEq, Int.reduceToNat, Int.reduceLE, Int.reduceLT, Int.reduceNe, Int.reduceMul, Int.reduceAdd, Int.reduceSub, Int.reduceDiv, Int.reduceMod, Int.reduceEq, Int.reduceGE, Int.reduceGT, Int.reduceNeg, Int.reduceBEq, Int.reduceBNe, Nat.reduceEqDiff]
  · rintro - hd
    have hdl : (digs s).length ≤ s.length := (congrArg List.length hd).symm ▸ by simp
    have edr : List.drop (digs s).length s = caps s := (congrArg (List.drop (digs s).length) hd).trans (by simp)
    have etk : List.take (digs s).length s = digs s := (congrArg (List.take (digs s).length) hd).trans (by simp)
    have hcl : (caps s).length ≤ s.length := (congrArg List.length hd).symm ▸ by simp
    refine go (N := 56) Tryz.ntmps24 300 ?_
    simp only [go_sem, Nat.reduceAdd, Nat.reduceMul, Nat.reduceSub, Nat.reduceBEq, Nat.reduceLT, Nat.reduceLeDiff, reduceIte, reduceCtorEq, Int.reduceToNat, Int.reduceLE, Int.reduceLT, Int.reduceNe, Int.reduceMul, Int.reduceAdd, Int.reduceSub, Int.reduceDiv, Int.reduceMod, Int.reduceEq, Int.reduceGE, Int.reduceGT, Int.reduceNeg, Int.reduceBEq, Int.reduceBNe, Nat.reduceEqDiff, edr]
    refine ⟨by omega, by omega, by omega, ?_⟩
    refine aloopX (ι := Nat) (κ := Unit) (fun i => (caps s).length - i) (fun i => [(23, .int .i64 i), (22, .int .i64 (caps s).length), (4, .str (caps s)), (3, .int .i64 (digs s).length), (0, .str s)]) (fun _ => []) (fun i => i ≤ (caps s).length ∧ ((caps s).take i).all capB = true)
      (fun _ => [(4, .str (caps s)), (3, .int .i64 (digs s).length), (0, .str s)]) (fun _ => []) (fun _ => (caps s).all capB = true) 0 ⟨by omega, by simp⟩ ?_ ?_ ?_
    · refine Shift.weak ?_
      simp only [wk, go_sem, Nat.reduceAdd, Nat.reduceMul, Nat.reduceSub, Nat.reduceBEq, Nat.reduceLT, Nat.reduceLeDiff, reduceIte, reduceCtorEq, Int.reduceToNat, Int.reduceLE, Int.reduceLT, Int.reduceNe, Int.reduceMul, Int.reduceAdd, Int.reduceSub, Int.reduceDiv, Int.reduceMod, Int.reduceEq, Int.reduceGE, Int.reduceGT, Int.reduceNeg, Int.reduceBEq, Int.reduceBNe, Nat.reduceEqDiff]
    · rintro - hc
      by_cases h5 : ((caps s).length : Int) > 5
      · have d5 : decide (((caps s).length : Int) > 5) = true := by simpa using h5
        refine go (N := 56) Tryz.ntmps24 300 ?_
        simp only [go_sem, Nat.reduceAdd, Nat.reduceMul, Nat.reduceSub, Nat.reduceBEq, Nat.reduceLT, Nat.reduceLeDiff, reduceIte, reduceCtorEq, Int.reduceToNat, Int.reduceLE, Int.reduceLT, Int.reduceNe, Int.reduceMul, Int.reduceAdd, Int.reduceSub, Int.reduceDiv, Int.reduceMod, Int.reduceEq, Int.reduceGE, Int.reduceGT, Int.reduceNeg, Int.reduceBEq, Int.reduceBNe, Nat.reduceEqDiff, d5]
        exact aret [2] rfl ⟨by simp [resV, Av.get, numberL, d5], rfl⟩
      have d5 : decide (((caps s).length : Int) > 5) = false := by simpa using h5
      refine go (N := 56) Tryz.ntmps24 300 ?_
      simp only [go_sem, Nat.reduceAdd, Nat.reduceMul, Nat.reduceSub, Nat.reduceBEq, Nat.reduceLT, Nat.reduceLeDiff, reduceIte, reduceCtorEq, Int.reduceToNat, Int.reduceLE, Int.reduceLT, Int.reduceNe, Int.reduceMul, Int.reduceAdd, Int.reduceSub, Int.reduceDiv, Int.reduceMod, Int.reduceEq, Int.reduceGE, Int.reduceGT, Int.reduceNeg, Int.reduceBEq, Int.reduceBNe, Nat.reduceEqDiff, d5]
      refine pcall1 (hasSuffix_pc (caps s) [65] (by omega)) rfl (N := 56) Tryz.ntmps24 rfl (go (N := 56) Tryz.ntmps24 300 ?_)
      cases e6 : Lib.hasSuffix (caps s) [65] with
      | true =>
        simp only [go_sem, Nat.reduceAdd, Nat.reduceMul, Nat.reduceSub, Nat.reduceBEq, Nat.reduceLT, Nat.reduceLeDiff, reduceIte, reduceCtorEq, Int.reduceToNat, Int.reduceLE, Int.reduceLT, Int.reduceNe, Int.reduceMul, Int.reduceAdd, Int.reduceSub, Int.reduceDiv, Int.reduceMod, Int.reduceEq, Int.reduceGE, Int.reduceGT, Int.reduceNeg, Int.reduceBEq, Int.reduceBNe, Nat.reduceEqDiff]
        exact aret [2] rfl ⟨by simp [resV, Av.get, numberL, e6], rfl⟩
      | false =>
      by_cases h7 : digs s = [48]
      · have d7 : (digs s == [48]) = true := by simpa using h7
        simp only [go_sem, Nat.reduceAdd, Nat.reduceMul, Nat.reduceSub, Nat.reduceBEq, Nat.reduceLT, Nat.reduceLeDiff, reduceIte, reduceCtorEq, Int.reduceToNat, Int.reduceLE, Int.reduceLT, Int.reduceNe, Int.reduceMul, Int.reduceAdd, Int.reduceSub, Int.reduceDiv, Int.reduceMod, Int.reduceEq, Int.reduceGE, Int.reduceGT, Int.reduceNeg, Int.reduceBEq, Int.reduceBNe, Nat.reduceEqDiff, etk, d7]
        refine ⟨by omega, by omega, ?_⟩
        exact aret [2] rfl ⟨by simp [resV, Av.get, numberL, h7, d5, e6, hc], rfl⟩
      have d7 : (digs s == [48]) = false := by simpa using h7
      by_cases h8 : ((digs s).length : Int) ≥ 1
      · have d8 : decide (((digs s).length : Int) ≥ 1) = true := by simpa using h8
        have d8' : decide (1 ≤ (digs s).length) = true := by simp; omega
        by_cases h9 : ((digs s).length : Int) ≤ 3
        · have d9 : decide (((digs s).length : Int) ≤ 3) = true := by simpa using h9
          have d9' : decide ((digs s).length ≤ 3) = true := by simp; omega
          simp only [go_sem, Nat.reduceAdd, Nat.reduceMul, Nat.reduceSub, Nat.reduceBEq, Nat.reduceLT, Nat.reduceLeDiff, reduceIte, reduceCtorEq, Int.reduceToNat, Int.reduceLE, Int.reduceLT, Int.reduceNe, Int.reduceMul, Int.reduceAdd, Int.reduceSub, Int.reduceDiv, Int.reduceMod, Int.reduceEq, Int.reduceGE, Int.reduceGT, Int.reduceNeg, Int.reduceBEq, Int.reduceBNe, Nat.reduceEqDiff, etk, d7, d8, d9]
          refine ⟨by omega, by omega, by omega, ?_⟩
          exact aret [2] rfl ⟨by simp only [resV, Av.get, numberL, d5, e6, hc, if_neg h7, d8', d9']; rfl, rfl⟩
        · have d9 : decide (((digs s).length : Int) ≤ 3) = false := by simpa using h9
          have d9' : decide ((digs s).length ≤ 3) = false := by simp; omega
          simp only [go_sem, Nat.reduceAdd, Nat.reduceMul, Nat.reduceSub, Nat.reduceBEq, Nat.reduceLT, Nat.reduceLeDiff, reduceIte, reduceCtorEq, Int.reduceToNat, Int.reduceLE, Int.reduceLT, Int.reduceNe, Int.reduceMul, Int.reduceAdd, Int.reduceSub, Int.reduceDiv, Int.reduceMod, Int.reduceEq, Int.reduceGE, Int.reduceGT, Int.reduceNeg, Int.reduceBEq, Int.reduceBNe, Nat.reduceEqDiff, etk, d7, d8, d9]
          refine ⟨by omega, by omega, ?_⟩
          exact aret [2] rfl ⟨by simp only [resV, Av.get, numberL, d5, e6, hc, if_neg h7, d8', d9']; rfl, rfl⟩
      · have d8 : decide (((digs s).length : Int) ≥ 1) = false := by simpa using h8
        have d8' : decide (1 ≤ (digs s).length) = false := decide_eq_false (by omega)
        simp only [go_sem, Nat.reduceAdd, Nat.reduceMul, Nat.reduceSub, Nat.reduceBEq, Nat.reduceLT, Nat.reduceLeDiff, reduceIte, reduceCtorEq, Int.reduceToNat, Int.reduceLE, Int.reduceLT, Int.reduceNe, Int.reduceMul, Int.reduceAdd, Int.reduceSub, Int.reduceDiv, Int.reduceMod, Int.reduceEq, Int.reduceGE, Int.reduceGT, Int.reduceNeg, Int.reduceBEq, Int.reduceBNe, Nat.reduceEqDiff, etk, d7, d8]
        refine ⟨by omega, by omega, ?_⟩
        exact aret [2] rfl ⟨by simp only [resV, Av.get, numberL, d5, e6, hc, if_neg h7, d8']; rfl, rfl⟩
    · rintro i ⟨g1, g2⟩ J Q hJ hQ
      refine go (N := 56) Tryz.ntmps24 300 ?_
      by_cases hi : (i : Int) < (caps s).length
      · have hil : i < (caps s).length := by omega
        have hgd : (caps s).getD i 0 = (caps s)[i] := by simp [List.getD, hil]
        simp only [go_sem, Nat.reduceAdd, Nat.reduceMul, Nat.reduceSub, Nat.reduceBEq, Nat.reduceLT, Nat.reduceLeDiff, reduceIte, reduceCtorEq, Int.reduceToNat, Int.reduceLE, Int.reduceLT, Int.reduceNe, Int.reduceMul, Int.reduceAdd, Int.reduceSub, Int.reduceDiv, Int.reduceMod, Int.reduceEq, Int.reduceGE, Int.reduceGT, Int.reduceNeg, Int.reduceBEq, Int.reduceBNe, Nat.reduceEqDiff, hi, hgd]
        refine ⟨by omega, ?_⟩
        refine pcall1 (isCapital_pc _) rfl (N := 56) Tryz.ntmps24 rfl (go (N := 56) Tryz.ntmps24 300 ?_)
        cases c1 : capI ((caps s)[i].toNat : Int) with
        | true =>
          simp only [go_sem, Nat.reduceAdd, Nat.reduceMul, Nat.reduceSub, Nat.reduceBEq, Nat.reduceLT, Nat.reduceLeDiff, reduceIte, reduceCtorEq, Int.reduceToNat, Int.reduceLE, Int.reduceLT, Int.reduceNe, Int.reduceMul, Int.reduceAdd, Int.reduceSub, Int.reduceDiv, Int.reduceMod, Int.reduceEq, Int.reduceGE, Int.reduceGT, Int.reduceNeg, Int.reduceBEq, Int.reduceBNe, Nat.reduceEqDiff]
          rw [show (i : Int) + 1 = ((i + 1 : Nat) : Int) by omega]
          repeat refine And.intro (by omega) ?_
          refine ainv (hJ (i + 1) ⟨by omega, all_take_succ hil g2 c1⟩ (by omega)) (Shift.weak ?_)
          simp only [wk, go_sem, Nat.reduceAdd, Nat.reduceMul, Nat.reduceSub, Nat.reduceBEq, Nat.reduceLT, Nat.reduceLeDiff, reduceIte, reduceCtorEq, Int.reduceToNat, Int.reduceLE, Int.reduceLT, Int.reduceNe, Int.reduceMul, Int.reduceAdd, Int.reduceSub, Int.reduceDiv, Int.reduceMod, Int.reduceEq, Int.reduceGE, Int.reduceGT, Int.reduceNeg, Int.reduceBEq, Int.reduceBNe, Nat.reduceEqDiff]
        | false =>
          simp only [go_sem, Nat.reduceAdd, Nat.reduceMul, Nat.reduceSub, Nat.reduceBEq, Nat.reduceLT, Nat.reduceLeDiff, reduceIte, reduceCtorEq, Int.reduceToNat, Int.reduceLE, Int.reduceLT, Int.reduceNe, Int.reduceMul, Int.reduceAdd, Int.reduceSub, Int.reduceDiv, Int.reduceMod, Int.reduceEq, Int.reduceGE, Int.reduceGT, Int.reduceNeg, Int.reduceBEq, Int.reduceBNe, Nat.reduceEqDiff]
          exact aret [2] rfl ⟨by simp [resV, Av.get, numberL, all_false_at hil (p := capB) c1], rfl⟩
      · simp only [go_sem, Nat.reduceAdd, Nat.reduceMul, Nat.reduceSub, Nat.reduceBEq, Nat.reduceLT, Nat.reduceLeDiff, reduceIte, reduceCtorEq, Int.reduceToNat, Int.reduceLE, Int.reduceLT, Int.reduceNe, Int.reduceMul, Int.reduceAdd, Int.reduceSub, Int.reduceDiv, Int.reduceMod, Int.reduceEq, Int.reduceGE, Int.reduceGT, Int.reduceNeg, Int.reduceBEq, Int.reduceBNe, Nat.reduceEqDiff, hi]
        have hall : (caps s).all capB = true := by
          have ht : (caps s).take i = caps s := List.take_of_length_le (by omega)
          rw [ht] at g2; exact g2
        refine ainv (hQ () hall) (Shift.weak ?_)
        simp only [wk, go_sem, Nat.reduceAdd, Nat.reduceMul, Nat.reduceSub, Nat.reduceBEq, Nat.reduceLT, Nat.reduceLeDiff, reduceIte, reduceCtorEq, Int.reduceToNat, Int.reduceLE, Int.reduceLT, Int.reduceNe, Int.reduceMul, Int.reduceAdd, Int.reduceSub, Int.reduceDiv, Int.reduceMod, Int.reduceEq, Int.reduceGE, Int.reduceGT, Int.reduceNeg, Int.reduceBEq, Int.reduceBNe, Nat.reduceEqDiff]
  · rintro i ⟨g1, g2⟩ J Q hJ hQ
    have out : (i = s.length ∨ digB (s.getD i 0) = false) → ((digs s).length = i ∧ s = digs s ++ caps s) := fun e => by
      obtain ⟨e1, e2⟩ := takeWhile_at g1 g2 e
      exact ⟨by rw [digs, e1]; simp; omega, by simp [digs, caps]⟩
    refine go (N := 56) Tryz.ntmps24 300 ?_
    by_cases hi : (i : Int) < s.length
    · have hil : i < s.length := by omega
      have hgd : s.getD i 0 = s[i] := by simp [List.getD, hil]
      simp only [go_sem, Nat.reduceAdd, Nat.reduceMul, Nat.reduceSub, Nat.reduceBEq, Nat.reduceLT, Nat.reduceLeDiff, reduceIte, reduceCtorEq, Int.reduceToNat, Int.reduceLE, Int.reduceLT, Int.reduceNe, Int.reduceMul, Int.reduceAdd, Int.reduceSub, Int.reduceDiv, Int.reduceMod, Int.reduceEq, Int.reduceGE, Int.reduceGT, Int.reduceNeg, Int.reduceBEq, Int.reduceBNe, Nat.reduceEqDiff, hi, hgd]
      refine ⟨by omega, ?_⟩
      refine pcall1 (isDigit_pc _) rfl (N := 56) Tryz.ntmps24 rfl (go (N := 56) Tryz.ntmps24 300 ?_)
      cases c1 : digI (s[i].toNat : Int) with
      | true =>
        simp only [go_sem, Nat.reduceAdd, Nat.reduceMul, Nat.reduceSub, Nat.reduceBEq, Nat.reduceLT, Nat.reduceLeDiff, reduceIte, reduceCtorEq, Int.reduceToNat, Int.reduceLE, Int.reduceLT, Int.reduceNe, Int.reduceMul, Int.reduceAdd, Int.reduceSub, Int.reduceDiv, Int.reduceMod, Int.reduceEq, Int.reduceGE, Int.reduceGT, Int.reduceNeg, Int.reduceBEq, Int.reduceBNe, Nat.reduceEqDiff]
        rw [show (i : Int) + 1 = ((i + 1 : Nat) : Int) by omega]
        repeat refine And.intro (by omega) ?_
        refine ainv (hJ (i + 1) ⟨by omega, all_take_succ hil g2 c1⟩ (by omega)) (Shift.weak ?_)
        simp only [wk, go_sem, Nat.reduceAdd, Nat.reduceMul, Nat.reduceSub, Nat.reduceBEq, Nat.reduceLT, Nat.reduceLeDiff, reduceIte, reduceCtorEq, Int.reduceToNat, Int.reduceLE, Int.reduceLT, Int.reduceNe, Int.reduceMul, Int.reduceAdd, Int.reduceSub, Int.reduceDiv, Int.reduceMod, Int.reduceEq, Int.reduceGE, Int.reduceGT, Int.reduceNeg, Int.reduceBEq, Int.reduceBNe, Nat.reduceEqDiff]
      | false =>
        obtain ⟨e1, e2⟩ := out (.inr (by rw [hgd]; exact c1))
        simp only [go_sem, Nat.reduceAdd, Nat.reduceMul, Nat.reduceSub, Nat.reduceBEq, Nat.reduceLT, Nat.reduceLeDiff, reduceIte, reduceCtorEq, Int.reduceToNat, Int.reduceLE, Int.reduceLT, Int.reduceNe, Int.reduceMul, Int.reduceAdd, Int.reduceSub, Int.reduceDiv, Int.reduceMod, Int.reduceEq, Int.reduceGE, Int.reduceGT, Int.reduceNeg, Int.reduceBEq, Int.reduceBNe, Nat.reduceEqDiff]
        refine ainv (hQ () e2) (Shift.weak ?_)
        rw [e1]
        simp only [wk, go_sem, Nat.reduceAdd, Nat.reduceMul, Nat.reduceSub, Nat.reduceBEq, Nat.reduceLT, Nat.reduceLeDiff, reduceIte, reduceCtorEq, Int.reduceToNat, Int.reduceLE, Int.reduceLT, Int.reduceNe, Int.reduceMul, Int.reduceAdd, Int.reduceSub, Int.reduceDiv, Int.reduceMod, Int.reduceEq, Int.reduceGE, Int.reduceGT, Int.reduceNeg, Int.reduceBEq, Int.reduceBNe, Nat.reduceEqDiff]
    · simp only [go_sem, Nat.reduceAdd, Nat.reduceMul, Nat.reduceSub, Nat.reduceBEq, Nat.reduceLT, Nat.reduceLeDiff, reduceIte, reduceCtorEq, Int.reduceToNat, Int.reduceLE, Int.reduceLT, Int.reduceNe, Int.reduceMul, Int.reduceAdd, Int.reduceSub, Int.reduceDiv, Int.reduceMod, Int.reduceEq, Int.reduceGE, Int.reduceGT, Int.reduceNeg, Int.reduceBEq, Int.reduceBNe, Nat.reduceEqDiff, hi]
      obtain ⟨e1, e2⟩ := out (.inl (by omega))
      refine ainv (hQ () e2) (Shift.weak ?_)
      rw [e1]
      simp only [wk, go_sem, Nat.reduceAdd, Nat.reduceMul, Nat.reduceSub, Nat.reduceBEq, Nat.reduceLT, Nat.reduceLeDiff, reduceIte, reduceCtorEq, Int.reduceToNat, Int.reduceLE, Int.reduceLT, Int.reduceNe, Int.reduceMul, Int.reduceAdd, Int.reduceSub, Int.reduceDiv, Int.reduceMod, Int.reduceEq, Int.reduceGE, Int.reduceGT, Int.reduceNeg, Int.reduceBEq, Int.reduceBNe, Nat.reduceEqDiff]

/-- a number's digits, as a number -/
def pN (s : List UInt8) : Int := (Lib.atoi (digs s)).getD 0
def okD (s : List UInt8) : Prop := 1 ≤ (digs s).length ∧ (digs s).length ≤ 18

theorem digB_val {c : UInt8} (h : digB c = true) : Lib.digitVal c = some (c.toNat - 48) := by
  simp only [digB, digI, Bool.and_eq_true, decide_eq_true_eq] at h
  unfold Lib.digitVal
  rw [if_pos (by omega)]
theorem decFrom_digs : ∀ (l : List UInt8) (acc : Nat), l.all digB = true → ∃ n, Lib.decFrom acc l = some n
  | [], acc, _ => ⟨acc, rfl⟩
  | c :: l, acc, h => by
    simp only [List.all_cons, Bool.and_eq_true] at h
    obtain ⟨n, hn⟩ := decFrom_digs l (acc * 10 + (c.toNat - 48)) h.2
    exact ⟨n, by rw [Lib.decFrom, digB_val h.1]; exact hn⟩
theorem digs_all (s : List UInt8) : (digs s).all digB = true := List.all_takeWhile

theorem atoi_digs {s : List UInt8} (h : okD s) : Lib.atoi (digs s) = some (pN s) := by
  obtain ⟨n, hn⟩ := decFrom_digs (digs s) 0 (digs_all s)
  have h1 := h.1
  have ha := digs_all s
  have key : Lib.atoi (digs s) = some (n : Int) := by
    cases hq : digs s with
    | nil => simp [hq] at h1
    | cons b r =>
      rw [hq] at hn ha
      simp only [List.all_cons, Bool.and_eq_true, digB, digI, decide_eq_true_eq] at ha
      have b1 : (b == 45) = false := by
        cases hb : b == 45 with
        | false => rfl
        | true => have : b = 45 := by simpa using hb
                  subst this; exact absurd ha.1.1 (by decide)
      have b2 : (b == 43) = false := by
        cases hb : b == 43 with
        | false => rfl
        | true => have : b = 43 := by simpa using hb
                  subst this; exact absurd ha.1.1 (by decide)
      simp [Lib.atoi, b1, b2, Lib.decNat, hn]
  rw [pN, key]; rfl

theorem same_below {w w' : World} (b : Below w.heap.size w w') : Same w w' := ⟨b.os, b.tape, b.output, b.size, b.block⟩
theorem one_str (s : List UInt8) : ∀ h vs', RL h Lf0 true vs' [.str s] → vs' = [.string ⟨s.toArray⟩] := by
  intro h vs' r
  cases r with | cons r1 r => cases r; rw [rv_str r1]
theorem one_int (k : IntKind) (n : Int) : ∀ h vs', RL h Lf0 true vs' [.int k n] → vs' = [.int k n] := by
  intro h vs' r
  cases r with | cons r1 r => cases r; rw [rv_int r1]
theorem str_int (s : List UInt8) (k : IntKind) (n : Int) : ∀ h vs', RL h Lf0 true vs' [.str s, .int k n] → vs' = [.string ⟨s.toArray⟩, .int k n] := by
  intro h vs' r
  cases r with | cons r1 r => cases r with | cons r2 r => cases r; rw [rv_str r1, rv_int r2]

theorem atoi_pc (s : List UInt8) (n : Int) (hl : s.length ≤ 18) (h : Lib.atoi s = some n) : Pc Tryz.prog 88 [.str s] (· = .tup [.int .i64 n, .raw .nilIface]) :=
  pc_lib [_] (.tuple #[.int .i64 n, .nilIface]) hB88 (one_str s) (fun h => .tup [_, _] [_, _] (.cons (.int _ _) (.cons (.raw _) .nil)))
    fun w => (Any.strconv_Atoi Tryz.lays172 ⟨s.toArray⟩ n (by simpa [ByteArray.size] using hl) h w).mono fun e w' ⟨h1, t, h2⟩ => ⟨h1, h2 ▸ same_below (Lib.bytesWorld_below _ _ _)⟩
theorem compare_str_pc (a b : List UInt8) : Pc Tryz.prog 60 [.str a, .str b] (· = .int .i64 (Lib.compareBytes a b)) :=
  pc_lib [_, _] (.int .i64 (Lib.compareBytes a b)) hB60 (two_strs a b) (fun h => .int _ _) fun w => (Any.strings_Compare Tryz.lays106 ⟨a.toArray⟩ ⟨b.toArray⟩ w).mono fun e w' ⟨h1, h2⟩ => ⟨h1, h2 ▸ .refl w⟩
theorem repeat_pc (s : List UInt8) (c : Nat) (hlen : s.length * c ≤ 1000000) (hc : c ≤ 1000000) : Pc Tryz.prog 133 [.str s, .int .i64 c] (· = .str (Lib.repeatL s c)) :=
  pc_lib [_, .int .i64 c] (.string ⟨(Lib.repeatL s c).toArray⟩) hB133 (str_int s .i64 c) (fun h => .str _)
    fun w => (Any.strings_Repeat Tryz.lays105 Tryz.Builder_Extra_105 ⟨s.toArray⟩ c w (by omega) (by simp [ByteArray.size]; omega)).mono fun e w' ⟨h1, h2⟩ => ⟨h1, same_below h2⟩

theorem parse_pc (s : List UInt8) (hs : s.length < 1000000) (hd : okD s) : Pc Tryz.prog 57 [.str s] (· = .agg [.int .i64 (pN s), .str (caps s)]) := by
  refine pc_intro (ct_intro Tryz.func57 rfl Tryz.ntmps57 hB57 (by simp) fun h ρ w => go (N := 36) Tryz.ntmps57 300 ?_)
  simp only [go_sem, Nat.reduceAdd, Nat.reduceMul, Nat.reduceSub, Nat.reduceBEq, Nat.reduceLT, Nat.reduceLeDiff, reduceIte, reduceCtorEq, Int.reduceToNat, Int.reduceLE, Int.reduceLT, Int.reduceNe, Int.reduceMul, Int.reduceAdd, Int.reduceSub, Int.reduceDiv, Int.reduceMod, Int.reduceEq, Int.reduceGE, Int.reduceGT, Int.reduceNeg, Int.reduceBEq, Int.reduceBNe, Nat.reduceEqDiff]
  refine aloopX (ι := Nat) (κ := Unit) (fun i => s.length - i) (fun i => [(3, .int .i64 i), (2, .ptr 0 1 0 0), (0, .str s)]) (fun _ => [.arr 2 [.agg [.int .i64 0, .str []]]]) (fun i => i ≤ s.length ∧ (s.take i).all digB = true)
    (fun _ => [(3, .int .i64 (digs s).length), (2, .ptr 0 1 0 0), (0, .str s)]) (fun _ => [.arr 2 [.agg [.int .i64 0, .str []]]]) (fun _ => s = digs s ++ caps s) 0 ⟨by omega, by simp⟩ ?_ ?_ ?_
  · refine Shift.weak ?_
    simp only [wk, go_sem, Nat.reduceAdd, Nat.reduceMul, Nat.reduceSub, Nat.reduceBEq, Nat.reduceLT, Nat.reduceLeDiff, reduceIte, reduceCtorEq, Int.reduceToNat, Int.reduceLE, Int.reduceLT, Int.reduceNe, Int.reduceMul, Int.reduceAdd, Int.reduceSub, Int.reduceDiv, Int.reduceMod, Int.reduceEq, Int.reduceGE, Int.reduceGT, Int.reduceNeg, Int.reduceBEq, Int.reduceBNe, Nat.reduceEqDiff]
  · rintro - hd'
    have hdl : (digs s).length ≤ s.length := (congrArg List.length hd').symm ▸ by simp
    have edr : List.drop (digs s).length s = caps s := (congrArg (List.drop (digs s).length) hd').trans (by simp)
    have etk : List.take (digs s).length s = digs s := (congrArg (List.take (digs s).length) hd').trans (by simp)
    refine go (N := 36) Tryz.ntmps57 300 ?_
    simp only [go_sem, Nat.reduceAdd, Nat.reduceMul, Nat.reduceSub, Nat.reduceBEq, Nat.reduceLT, Nat.reduceLeDiff, reduceIte, reduceCtorEq, Int.reduceToNat, Int.reduceLE, Int.reduceLT, Int.reduceNe, Int.reduceMul, Int.reduceAdd, Int.reduceSub, Int.reduceDiv, Int.reduceMod, Int.reduceEq, Int.reduceGE, Int.reduceGT, Int.reduceNeg, Int.reduceBEq, Int.reduceBNe, Nat.reduceEqDiff, etk]
    refine ⟨by omega, by omega, ?_⟩
    refine pcall1 (atoi_pc (digs s) (pN s) hd.2 (atoi_digs hd)) rfl (N := 36) Tryz.ntmps57 rfl (go (N := 36) Tryz.ntmps57 300 ?_)
    simp only [go_sem, Nat.reduceAdd, Nat.reduceMul, Nat.reduceSub, Nat.reduceBEq, Nat.reduceLT, Nat.reduceLeDiff, reduceIte, reduceCtorEq, Int.reduceToNat, Int.reduceLE, Int.reduceLT, Int.reduceNe, Int.reduceMul, Int.reduceAdd, Int.reduceSub, Int.reduceDiv, Int.reduceMod, Int.reduceEq, Int.reduceGE, Int.reduceGT, Int.reduceNeg, Int.reduceBEq, Int.reduceBNe, Nat.reduceEqDiff, edr]
    refine ⟨by omega, by omega, ?_⟩
    refine ⟨by omega, aretc [.cell 2 97] rfl [.agg [.int .i64 (pN s), .str (caps s)]] ⟨?_, trivial⟩ ⟨rfl, rfl⟩⟩
    simp only [go_sem, Nat.reduceAdd, Nat.reduceMul, Nat.reduceSub, Nat.reduceBEq, Nat.reduceLT, Nat.reduceLeDiff, reduceIte, reduceCtorEq, Int.reduceToNat, Int.reduceLE, Int.reduceLT, Int.reduceNe, Int.reduceMul, Int.reduceAdd, Int.reduceSub, Int.reduceDiv, Int.reduceMod, Int.reduceEq, Int.reduceGE, Int.reduceGT, Int.reduceNeg, Int.reduceBEq, Int.reduceBNe, Nat.reduceEqDiff, sideIs]
  · rintro i ⟨g1, g2⟩ J Q hJ hQ
    have out : (i = s.length ∨ digB (s.getD i 0) = false) → ((digs s).length = i ∧ s = digs s ++ caps s) := fun e => by
      obtain ⟨e1, e2⟩ := takeWhile_at g1 g2 e
      exact ⟨by rw [digs, e1]; simp; omega, by simp [digs, caps]⟩
    refine go (N := 36) Tryz.ntmps57 300 ?_
    by_cases hi : (i : Int) < s.length
    · have hil : i < s.length := by omega
      have hgd : s.getD i 0 = s[i] := by simp [List.getD, hil]
      have hb : digB s[i] = (decide ((s[i].toNat : Int) ≥ 48) && decide ((s[i].toNat : Int) ≤ 57)) := rfl
      cases c1 : decide ((s[i].toNat : Int) ≥ 48) with
      | true =>
        cases c2 : decide ((s[i].toNat : Int) ≤ 57) with
        | true =>
          simp only [go_sem, Nat.reduceAdd, Nat.reduceMul, Nat.reduceSub, Nat.reduceBEq, Nat.reduceLT, Nat.reduceLeDiff, reduceIte, reduceCtorEq, Int.reduceToNat, Int.reduceLE, Int.reduceLT, Int.reduceNe, Int.reduceMul, Int.reduceAdd, Int.reduceSub, Int.reduceDiv, Int.reduceMod, Int.reduceEq, Int.reduceGE, Int.reduceGT, Int.reduceNeg, Int.reduceBEq, Int.reduceBNe, Nat.reduceEqDiff, hi, hgd, c1, c2]
          rw [show (i : Int) + 1 = ((i + 1 : Nat) : Int) by omega]
          repeat refine And.intro (by omega) ?_
          refine ainv (hJ (i + 1) ⟨by omega, all_take_succ hil g2 (by rw [hb, c1, c2]; rfl)⟩ (by omega)) (Shift.weak ?_)
          simp only [wk, go_sem, Nat.reduceAdd, Nat.reduceMul, Nat.reduceSub, Nat.reduceBEq, Nat.reduceLT, Nat.reduceLeDiff, reduceIte, reduceCtorEq, Int.reduceToNat, Int.reduceLE, Int.reduceLT, Int.reduceNe, Int.reduceMul, Int.reduceAdd, Int.reduceSub, Int.reduceDiv, Int.reduceMod, Int.reduceEq, Int.reduceGE, Int.reduceGT, Int.reduceNeg, Int.reduceBEq, Int.reduceBNe, Nat.reduceEqDiff]
        | false =>
          obtain ⟨e1, e2⟩ := out (.inr (by rw [hgd, hb, c1, c2]; rfl))
          simp only [go_sem, Nat.reduceAdd, Nat.reduceMul, Nat.reduceSub, Nat.reduceBEq, Nat.reduceLT, Nat.reduceLeDiff, reduceIte, reduceCtorEq, Int.reduceToNat, Int.reduceLE, Int.reduceLT, Int.reduceNe, Int.reduceMul, Int.reduceAdd, Int.reduceSub, Int.reduceDiv, Int.reduceMod, Int.reduceEq, Int.reduceGE, Int.reduceGT, Int.reduceNeg, Int.reduceBEq, Int.reduceBNe, Nat.reduceEqDiff, hi, hgd, c1, c2]
          repeat refine And.intro (by omega) ?_
          refine ainv (hQ () e2) (Shift.weak ?_)
          rw [e1]
          simp only [wk, go_sem, Nat.reduceAdd, Nat.reduceMul, Nat.reduceSub, Nat.reduceBEq, Nat.reduceLT, Nat.reduceLeDiff, reduceIte, reduceCtorEq, Int.reduceToNat, Int.reduceLE, Int.reduceLT, Int.reduceNe, Int.reduceMul, Int.reduceAdd, Int.reduceSub, Int.reduceDiv, Int.reduceMod, Int.reduceEq, Int.reduceGE, Int.reduceGT, Int.reduceNeg, Int.reduceBEq, Int.reduceBNe, Nat.reduceEqDiff]
      | false =>
        obtain ⟨e1, e2⟩ := out (.inr (by rw [hgd, hb, c1]; rfl))
        simp only [go_sem, Nat.reduceAdd, Nat.reduceMul, Nat.reduceSub, Nat.reduceBEq, Nat.reduceLT, Nat.reduceLeDiff, reduceIte, reduceCtorEq, Int.reduceToNat, Int.reduceLE, Int.reduceLT, Int.reduceNe, Int.reduceMul, Int.reduceAdd, Int.reduceSub, Int.reduceDiv, Int.reduceMod, Int.reduceEq, Int.reduceGE, Int.reduceGT, Int.reduceNeg, Int.reduceBEq, Int.reduceBNe, Nat.reduceEqDiff, hi, hgd, c1]
        repeat refine And.intro (by omega) ?_
        refine ainv (hQ () e2) (Shift.weak ?_)
        rw [e1]
        simp only [wk, go_sem, Nat.reduceAdd, Nat.reduceMul, Nat.reduceSub, Nat.reduceBEq, Nat.reduceLT, Nat.reduceLeDiff, reduceIte, reduceCtorEq, Int.reduceToNat, Int.reduceLE, Int.reduceLT, Int.reduceNe, Int.reduceMul, Int.reduceAdd, Int.reduceSub, Int.reduceDiv, Int.reduceMod, Int.reduceEq, Int.reduceGE, Int.reduceGT, Int.reduceNeg, Int.reduceBEq, Int.reduceBNe, Nat.reduceEqDiff]
    · simp only [go_sem, Nat.reduceAdd, Nat.reduceMul, Nat.reduceSub, Nat.reduceBEq, Nat.reduceLT, Nat.reduceLeDiff, reduceIte, reduceCtorEq, Int.reduceToNat, Int.reduceLE, Int.reduceLT, Int.reduceNe, Int.reduceMul, Int.reduceAdd, Int.reduceSub, Int.reduceDiv, Int.reduceMod, Int.reduceEq, Int.reduceGE, Int.reduceGT, Int.reduceNeg, Int.reduceBEq, Int.reduceBNe, Nat.reduceEqDiff, hi]
      obtain ⟨e1, e2⟩ := out (.inl (by omega))
      refine ainv (hQ () e2) (Shift.weak ?_)
      rw [e1]
      simp only [wk, go_sem, Nat.reduceAdd, Nat.reduceMul, Nat.reduceSub, Nat.reduceBEq, Nat.reduceLT, Nat.reduceLeDiff, reduceIte, reduceCtorEq, Int.reduceToNat, Int.reduceLE, Int.reduceLT, Int.reduceNe, Int.reduceMul, Int.reduceAdd, Int.reduceSub, Int.reduceDiv, Int.reduceMod, Int.reduceEq, Int.reduceGE, Int.reduceGT, Int.reduceNeg, Int.reduceBEq, Int.reduceBNe, Nat.reduceEqDiff]

theorem isNaN_int_pc (x : Int) : Pc Tryz.prog 89 [.int .i64 x] (· = .bool false) := by
  refine pc_intro (ct_intro Tryz.func89 rfl Tryz.ntmps89 hB89 (by simp) fun h ρ w => go (N := 6) Tryz.ntmps89 300 ?_)
  simp only [go_sem, Nat.reduceAdd, Nat.reduceMul, Nat.reduceSub, Nat.reduceBEq, Nat.reduceLT, Nat.reduceLeDiff, reduceIte, reduceCtorEq, Int.reduceToNat, Int.reduceLE, Int.reduceLT, Int.reduceNe, Int.reduceMul, Int.reduceAdd, Int.reduceSub, Int.reduceDiv, Int.reduceMod, Int.reduceEq, Int.reduceGE, Int.reduceGT, Int.reduceNeg, Int.reduceBEq, Int.reduceBNe, Nat.reduceEqDiff]
  exact aret [2] rfl ⟨by simp [resV, Av.get], rfl⟩

def cmpI (x y : Int) : Int := if x < y then -1 else if x > y then 1 else 0

theorem cmp_int_pc (x y : Int) : Pc Tryz.prog 59 [.int .i64 x, .int .i64 y] (· = .int .i64 (cmpI x y)) := by
  refine pc_intro (ct_intro Tryz.func59 rfl Tryz.ntmps59 hB59 (by simp) fun h ρ w => go (N := 20) Tryz.ntmps59 300 ?_)
  simp only [go_sem, Nat.reduceAdd, Nat.reduceMul, Nat.reduceSub, Nat.reduceBEq, Nat.reduceLT, Nat.reduceLeDiff, reduceIte, reduceCtorEq, Int.reduceToNat, Int.reduceLE, Int.reduceLT, Int.reduceNe, Int.reduceMul, Int.reduceAdd, Int.reduceSub, Int.reduceDiv, Int.reduceMod, Int.reduceEq, Int.reduceGE, Int.reduceGT, Int.reduceNeg, Int.reduceBEq, Int.reduceBNe, Nat.reduceEqDiff]
  refine pcall1 (isNaN_int_pc _) rfl (N := 20) Tryz.ntmps59 rfl (go (N := 20) Tryz.ntmps59 300 ?_)
  simp only [go_sem, Nat.reduceAdd, Nat.reduceMul, Nat.reduceSub, Nat.reduceBEq, Nat.reduceLT, Nat.reduceLeDiff, reduceIte, reduceCtorEq, Int.reduceToNat, Int.reduceLE, Int.reduceLT, Int.reduceNe, Int.reduceMul, Int.reduceAdd, Int.reduceSub, Int.reduceDiv, Int.reduceMod, Int.reduceEq, Int.reduceGE, Int.reduceGT, Int.reduceNeg, Int.reduceBEq, Int.reduceBNe, Nat.reduceEqDiff]
  refine pcall1 (isNaN_int_pc _) rfl (N := 20) Tryz.ntmps59 rfl (go (N := 20) Tryz.ntmps59 300 ?_)
  by_cases h1 : x < y
  · have d1 : decide (x < y) = true := by simpa using h1
    simp only [go_sem, Nat.reduceAdd, Nat.reduceMul, Nat.reduceSub, Nat.reduceBEq, Nat.reduceLT, Nat.reduceLeDiff, reduceIte, reduceCtorEq, Int.reduceToNat, Int.reduceLE, Int.reduceLT, Int.reduceNe, Int.reduceMul, Int.reduceAdd, Int.reduceSub, Int.reduceDiv, Int.reduceMod, Int.reduceEq, Int.reduceGE, Int.reduceGT, Int.reduceNeg, Int.reduceBEq, Int.reduceBNe, Nat.reduceEqDiff, d1]
    exact aret [4] rfl ⟨by simp [resV, Av.get, cmpI, h1], rfl⟩
  have d1 : decide (x < y) = false := by simpa using h1
  by_cases h2 : x > y
  · have d2 : decide (x > y) = true := by simpa using h2
    simp only [go_sem, Nat.reduceAdd, Nat.reduceMul, Nat.reduceSub, Nat.reduceBEq, Nat.reduceLT, Nat.reduceLeDiff, reduceIte, reduceCtorEq, Int.reduceToNat, Int.reduceLE, Int.reduceLT, Int.reduceNe, Int.reduceMul, Int.reduceAdd, Int.reduceSub, Int.reduceDiv, Int.reduceMod, Int.reduceEq, Int.reduceGE, Int.reduceGT, Int.reduceNeg, Int.reduceBEq, Int.reduceBNe, Nat.reduceEqDiff, d1, d2]
    exact aret [4] rfl ⟨by simp [resV, Av.get, cmpI, h1, h2], rfl⟩
  have d2 : decide (x > y) = false := by simpa using h2
  simp only [go_sem, Nat.reduceAdd, Nat.reduceMul, Nat.reduceSub, Nat.reduceBEq, Nat.reduceLT, Nat.reduceLeDiff, reduceIte, reduceCtorEq, Int.reduceToNat, Int.reduceLE, Int.reduceLT, Int.reduceNe, Int.reduceMul, Int.reduceAdd, Int.reduceSub, Int.reduceDiv, Int.reduceMod, Int.reduceEq, Int.reduceGE, Int.reduceGT, Int.reduceNeg, Int.reduceBEq, Int.reduceBNe, Nat.reduceEqDiff, d1, d2]
  exact aret [4] rfl ⟨by simp [resV, Av.get, cmpI, h1, h2], rfl⟩

def orI (x y : Int) : Int := if x = 0 then y else x

theorem or_pc (x y : Int) : Pc Tryz.prog 58 [.fz 1 [.int .i64 x, .int .i64 y]] (· = .int .i64 (orI x y)) := by
  refine pc_intro (ct_intro Tryz.func58 rfl Tryz.ntmps58 hB58 (by simp) fun h ρ w => go (N := 18) Tryz.ntmps58 300 ?_)
  simp only [go_sem, Nat.reduceAdd, Nat.reduceMul, Nat.reduceSub, Nat.reduceBEq, Nat.reduceLT, Nat.reduceLeDiff, reduceIte, reduceCtorEq, Int.reduceToNat, Int.reduceLE, Int.reduceLT, Int.reduceNe, Int.reduceMul, Int.reduceAdd, Int.reduceSub, Int.reduceDiv, Int.reduceMod, Int.reduceEq, Int.reduceGE, Int.reduceGT, Int.reduceNeg, Int.reduceBEq, Int.reduceBNe, Nat.reduceEqDiff]
  refine aenter (around (go (N := 18) Tryz.ntmps58 300 ?_))
  by_cases h1 : x = 0
  · have d1 : (x != 0) = false := by simpa using h1
    simp only [go_sem, Nat.reduceAdd, Nat.reduceMul, Nat.reduceSub, Nat.reduceBEq, Nat.reduceLT, Nat.reduceLeDiff, reduceIte, reduceCtorEq, Int.reduceToNat, Int.reduceLE, Int.reduceLT, Int.reduceNe, Int.reduceMul, Int.reduceAdd, Int.reduceSub, Int.reduceDiv, Int.reduceMod, Int.reduceEq, Int.reduceGE, Int.reduceGT, Int.reduceNeg, Int.reduceBEq, Int.reduceBNe, Nat.reduceEqDiff, d1]
    refine aagain (around (go (N := 18) Tryz.ntmps58 300 ?_))
    by_cases h2 : y = 0
    · have d2 : (y != 0) = false := by simpa using h2
      simp only [go_sem, Nat.reduceAdd, Nat.reduceMul, Nat.reduceSub, Nat.reduceBEq, Nat.reduceLT, Nat.reduceLeDiff, reduceIte, reduceCtorEq, Int.reduceToNat, Int.reduceLE, Int.reduceLT, Int.reduceNe, Int.reduceMul, Int.reduceAdd, Int.reduceSub, Int.reduceDiv, Int.reduceMod, Int.reduceEq, Int.reduceGE, Int.reduceGT, Int.reduceNeg, Int.reduceBEq, Int.reduceBNe, Nat.reduceEqDiff, d2]
      refine aagain (around (go (N := 18) Tryz.ntmps58 300 ?_))
      simp only [go_sem, Nat.reduceAdd, Nat.reduceMul, Nat.reduceSub, Nat.reduceBEq, Nat.reduceLT, Nat.reduceLeDiff, reduceIte, reduceCtorEq, Int.reduceToNat, Int.reduceLE, Int.reduceLT, Int.reduceNe, Int.reduceMul, Int.reduceAdd, Int.reduceSub, Int.reduceDiv, Int.reduceMod, Int.reduceEq, Int.reduceGE, Int.reduceGT, Int.reduceNeg, Int.reduceBEq, Int.reduceBNe, Nat.reduceEqDiff]
      exact aret [2] rfl ⟨by simp [resV, Av.get, orI, h1, h2], rfl⟩
    have d2 : (y != 0) = true := by simpa using h2
    simp only [go_sem, Nat.reduceAdd, Nat.reduceMul, Nat.reduceSub, Nat.reduceBEq, Nat.reduceLT, Nat.reduceLeDiff, reduceIte, reduceCtorEq, Int.reduceToNat, Int.reduceLE, Int.reduceLT, Int.reduceNe, Int.reduceMul, Int.reduceAdd, Int.reduceSub, Int.reduceDiv, Int.reduceMod, Int.reduceEq, Int.reduceGE, Int.reduceGT, Int.reduceNeg, Int.reduceBEq, Int.reduceBNe, Nat.reduceEqDiff, d2]
    exact aret [2] rfl ⟨by simp [resV, Av.get, orI, h1], rfl⟩
  have d1 : (x != 0) = true := by simpa using h1
  simp only [go_sem, Nat.reduceAdd, Nat.reduceMul, Nat.reduceSub, Nat.reduceBEq, Nat.reduceLT, Nat.reduceLeDiff, reduceIte, reduceCtorEq, Int.reduceToNat, Int.reduceLE, Int.reduceLT, Int.reduceNe, Int.reduceMul, Int.reduceAdd, Int.reduceSub, Int.reduceDiv, Int.reduceMod, Int.reduceEq, Int.reduceGE, Int.reduceGT, Int.reduceNeg, Int.reduceBEq, Int.reduceBNe, Nat.reduceEqDiff, d1]
  exact aret [2] rfl ⟨by simp [resV, Av.get, orI, h1], rfl⟩

def compareN (a b : List UInt8) : Int := orI (cmpI (pN a) (pN b)) (Lib.compareBytes (caps a) (caps b))

theorem compareN_pc (a b : List UInt8) (ha : a.length < 1000000) (hb : b.length < 1000000) (da : okD a) (db : okD b) : Pc Tryz.prog 25 [.str a, .str b] (· = .int .i64 (compareN a b)) := by
  refine pc_intro (ct_intro Tryz.func25 rfl Tryz.ntmps25 hB25 (by simp) fun h ρ w => go (N := 23) Tryz.ntmps25 300 ?_)
  simp only [go_sem, Nat.reduceAdd, Nat.reduceMul, Nat.reduceSub, Nat.reduceBEq, Nat.reduceLT, Nat.reduceLeDiff, reduceIte, reduceCtorEq, Int.reduceToNat, Int.reduceLE, Int.reduceLT, Int.reduceNe, Int.reduceMul, Int.reduceAdd, Int.reduceSub, Int.reduceDiv, Int.reduceMod, Int.reduceEq, Int.reduceGE, Int.reduceGT, Int.reduceNeg, Int.reduceBEq, Int.reduceBNe, Nat.reduceEqDiff]
  refine pcall1 (parse_pc a ha da) rfl (N := 23) Tryz.ntmps25 rfl (go (N := 23) Tryz.ntmps25 300 ?_)
  simp only [go_sem, Nat.reduceAdd, Nat.reduceMul, Nat.reduceSub, Nat.reduceBEq, Nat.reduceLT, Nat.reduceLeDiff, reduceIte, reduceCtorEq, Int.reduceToNat, Int.reduceLE, Int.reduceLT, Int.reduceNe, Int.reduceMul, Int.reduceAdd, Int.reduceSub, Int.reduceDiv, Int.reduceMod, Int.reduceEq, Int.reduceGE, Int.reduceGT, Int.reduceNeg, Int.reduceBEq, Int.reduceBNe, Nat.reduceEqDiff]
  refine pcall1 (parse_pc b hb db) rfl (N := 23) Tryz.ntmps25 rfl (go (N := 23) Tryz.ntmps25 300 ?_)
  simp only [go_sem, Nat.reduceAdd, Nat.reduceMul, Nat.reduceSub, Nat.reduceBEq, Nat.reduceLT, Nat.reduceLeDiff, reduceIte, reduceCtorEq, Int.reduceToNat, Int.reduceLE, Int.reduceLT, Int.reduceNe, Int.reduceMul, Int.reduceAdd, Int.reduceSub, Int.reduceDiv, Int.reduceMod, Int.reduceEq, Int.reduceGE, Int.reduceGT, Int.reduceNeg, Int.reduceBEq, Int.reduceBNe, Nat.reduceEqDiff]
  refine adraw [.int .i64 (cmpI (pN a) (pN b)), .int .i64 (Lib.compareBytes (caps a) (caps b)), .int .i64 (compareN a b)] mixed (by decide) (N := 23) Tryz.ntmps25 (by decide) 100 ?_
  simp only [go_sem, Nat.reduceAdd, Nat.reduceMul, Nat.reduceSub, Nat.reduceBEq, Nat.reduceLT, Nat.reduceLeDiff, reduceIte, reduceCtorEq, Int.reduceToNat, Int.reduceLE, Int.reduceLT, Int.reduceNe, Int.reduceMul, Int.reduceAdd, Int.reduceSub, Int.reduceDiv, Int.reduceMod, Int.reduceEq, Int.reduceGE, Int.reduceGT, Int.reduceNeg, Int.reduceBEq, Int.reduceBNe, Nat.reduceEqDiff]
  have ho := or_pc (cmpI (pN a) (pN b)) (Lib.compareBytes (caps a) (caps b))
  refine ⟨(cmp_int_pc _ _).at, rfl, rfl, (compare_str_pc _ _).at, rfl, rfl, ho.at, rfl, ?_⟩
  refine go (N := 23) Tryz.ntmps25 300 ?_
  simp only [go_sem, Nat.reduceAdd, Nat.reduceMul, Nat.reduceSub, Nat.reduceBEq, Nat.reduceLT, Nat.reduceLeDiff, reduceIte, reduceCtorEq, Int.reduceToNat, Int.reduceLE, Int.reduceLT, Int.reduceNe, Int.reduceMul, Int.reduceAdd, Int.reduceSub, Int.reduceDiv, Int.reduceMod, Int.reduceEq, Int.reduceGE, Int.reduceGT, Int.reduceNeg, Int.reduceBEq, Int.reduceBNe, Nat.reduceEqDiff]
  exact aret [4] rfl ⟨by simp [resV, Av.get], rfl⟩

def lowestL (n : Nat) : List UInt8 := Lib.repeatL [65] (n - 1) ++ [66]

theorem lowest_pc (n : Nat) (h0 : 1 ≤ n) (h1 : n ≤ 1000) : Pc Tryz.prog 91 [.int .i64 n] (· = .str (lowestL n)) := by
  have hr := repeat_pc [65] (n - 1) (by simp; omega) (by omega)
  rw [show ((n - 1 : Nat) : Int) = (n : Int) - 1 by omega] at hr
  refine pc_intro (ct_intro Tryz.func91 rfl Tryz.ntmps91 hB91 (by simp) fun h ρ w => go (N := 7) Tryz.ntmps91 300 ?_)
  simp only [go_sem, Nat.reduceAdd, Nat.reduceMul, Nat.reduceSub, Nat.reduceBEq, Nat.reduceLT, Nat.reduceLeDiff, reduceIte, reduceCtorEq, Int.reduceToNat, Int.reduceLE, Int.reduceLT, Int.reduceNe, Int.reduceMul, Int.reduceAdd, Int.reduceSub, Int.reduceDiv, Int.reduceMod, Int.reduceEq, Int.reduceGE, Int.reduceGT, Int.reduceNeg, Int.reduceBEq, Int.reduceBNe, Nat.reduceEqDiff]
  refine ⟨by omega, by omega, ?_⟩
  refine pcall1 (hr) rfl (N := 7) Tryz.ntmps91 rfl (go (N := 7) Tryz.ntmps91 300 ?_)
  simp only [go_sem, Nat.reduceAdd, Nat.reduceMul, Nat.reduceSub, Nat.reduceBEq, Nat.reduceLT, Nat.reduceLeDiff, reduceIte, reduceCtorEq, Int.reduceToNat, Int.reduceLE, Int.reduceLT, Int.reduceNe, Int.reduceMul, Int.reduceAdd, Int.reduceSub, Int.reduceDiv, Int.reduceMod, Int.reduceEq, Int.reduceGE, Int.reduceGT, Int.reduceNeg, Int.reduceBEq, Int.reduceBNe, Nat.reduceEqDiff]
  refine ⟨by rw [Lib.repeatL_length]; simp; omega, ?_⟩
  exact aret [2] rfl ⟨by simp [resV, Av.get, lowestL], rfl⟩

abbrev bys (l : List UInt8) : List AV := l.map fun b => .int .u8 b.toNat
theorem bys_get {l : List UInt8} {k : Nat} (h : k < l.length) : (bys l).getD k .any = .int .u8 (l.getD k 0).toNat := by simp [List.getD, h]
theorem bys_set (l : List UInt8) (k : Nat) (x : UInt8) : (bys l).set k (.int .u8 x.toNat) = bys (l.set k x) := by simp [bys, List.map_set]
theorem bys_len (l : List UInt8) : (bys l).length = l.length := by simp
theorem bys_text (l : List UInt8) : (bys l).all isByte = true ∧ (bys l).map Go.Av.byteOf = l := by
  refine ⟨by simp [List.all_eq_true, isByte], ?_⟩
  induction l with
  | nil => rfl
  | cons b l ih =>
    simp only [bys, List.map_cons, Go.Av.byteOf] at ih ⊢
    rw [ih]
    simp

/-- the row with its last letter that is no Z one letter on, A behind it; reversed -/
def bumpR : List UInt8 → Option (List UInt8)
  | [] => none
  | c :: r => if c = 90 then (bumpR r).map (65 :: ·) else some ((c + 1) :: r)
def fixR : List UInt8 → List UInt8
  | [] => []
  | c :: r => (if c = 65 then 66 else c) :: r
def aboveL (c : List UInt8) (n : Nat) : List UInt8 :=
  if c.length < n then c ++ lowestL (n - c.length) else
    match bumpR (c.take n).reverse with
    | none => []
    | some r => (fixR r).reverse

theorem bump_run (p : List UInt8) : ∀ j, bumpR (List.replicate j 90 ++ p) = (bumpR p).map (List.replicate j 65 ++ ·)
  | 0 => by cases h : bumpR p <;> simp [h]
  | j + 1 => by
    rw [List.replicate_succ, List.cons_append, bumpR, if_pos rfl, bump_run p j]
    cases bumpR p <;> simp [List.replicate_succ]
theorem take_z {c : List UInt8} {n j : Nat} (hj : j ≤ n) (hn : n ≤ c.length) (h : ∀ i, n - j ≤ i → i < n → c.getD i 0 = 90) : c.take n = c.take (n - j) ++ List.replicate j 90 := by
  refine List.ext_getElem? fun i => ?_
  by_cases h1 : i < n - j
  · rw [List.getElem?_append_left (by simp; omega), List.getElem?_take, List.getElem?_take, if_pos h1, if_pos (by omega)]
  · rw [List.getElem?_append_right (by simp; omega), List.getElem?_take, List.getElem?_replicate, List.length_take]
    by_cases h2 : i < n
    · have := h i (by omega) h2
      simp only [List.getD, List.getElem?_eq_getElem (show i < c.length by omega), Option.getD_some] at this
      rw [if_pos h2, if_pos (by omega), List.getElem?_eq_getElem (show i < c.length by omega), this]
    · rw [if_neg h2, if_neg (by omega)]
theorem take_k {c : List UInt8} {k : Nat} (hk : k < c.length) : c.take (k + 1) = c.take k ++ [c.getD k 0] := by
  rw [List.take_succ_eq_append_getElem hk]; simp [List.getD, hk]
theorem bump_none {c : List UInt8} {n : Nat} (hn : n ≤ c.length) (h : ∀ i, n - n ≤ i → i < n → c.getD i 0 = 90) : bumpR (c.take n).reverse = none := by
  rw [take_z (Nat.le_refl n) hn h]
  have := bump_run [] n
  simpa [bumpR] using this
theorem bump_some {c : List UInt8} {n j : Nat} (hj : j < n) (hn : n ≤ c.length) (h : ∀ i, n - j ≤ i → i < n → c.getD i 0 = 90) (hk : c.getD (n - 1 - j) 0 ≠ 90) :
    bumpR (c.take n).reverse = some (List.replicate j 65 ++ (c.getD (n - 1 - j) 0 + 1) :: (c.take (n - 1 - j)).reverse) := by
  rw [take_z (Nat.le_of_lt hj) hn h, List.reverse_append, List.reverse_replicate, show n - j = (n - 1 - j) + 1 by omega, take_k (by omega), List.reverse_append, List.reverse_singleton, List.singleton_append, bump_run, bumpR, if_neg hk]
  rfl
theorem fix_last {l : List UInt8} {n : Nat} (h0 : 1 ≤ n) (hl : l.length = n) : (fixR l.reverse).reverse = if l.getD (n - 1) 0 = 65 then l.set (n - 1) 66 else l := by
  obtain ⟨r, x, rfl⟩ : ∃ r x, l = r ++ [x] := ⟨l.dropLast, l.getLast (by intro h; simp [h] at hl; omega), (List.dropLast_concat_getLast _).symm⟩
  have hr : n - 1 = r.length := by simp at hl; omega
  rw [hr]
  simp only [List.reverse_append, List.reverse_singleton, List.singleton_append, fixR]
  by_cases hx : x = 65
  · subst hx; simp
  · simp [hx]

theorem above_pc (c : List UInt8) (n : Nat) (h0 : 1 ≤ n) (h1 : n ≤ 1000) (hc : c.length < 1000000) (hcap : ∀ x ∈ c, x.toNat ≤ 90) : Pc Tryz.prog 92 [.str c, .int .i64 n] (· = .str (aboveL c n)) := by
  by_cases hl : (c.length : Int) < n
  · have hr := lowest_pc (n - c.length) (by omega) (by omega)
    rw [show ((n - c.length : Nat) : Int) = (n : Int) - c.length by omega] at hr
    have hll : (lowestL (n - c.length)).length ≤ 1000 := by simp [lowestL, Lib.repeatL_length]; omega
    refine pc_intro (ct_intro Tryz.func92 rfl Tryz.ntmps92 hB92 (by simp) fun h ρ w => go (N := 58) Tryz.ntmps92 300 ?_)
    simp only [go_sem, Nat.reduceAdd, Nat.reduceMul, Nat.reduceSub, Nat.reduceBEq, Nat.reduceLT, Nat.reduceLeDiff, reduceIte, reduceCtorEq, Int.reduceToNat, Int.reduceLE, Int.reduceLT, Int.reduceNe, Int.reduceMul, Int.reduceAdd, Int.reduceSub, Int.reduceDiv, Int.reduceMod, Int.reduceEq, Int.reduceGE, Int.reduceGT, Int.reduceNeg, Int.reduceBEq, Int.reduceBNe, Nat.reduceEqDiff, hl]
    refine ⟨by omega, by omega, ?_⟩
    refine pcall1 (hr) rfl (N := 58) Tryz.ntmps92 rfl (go (N := 58) Tryz.ntmps92 300 ?_)
    simp only [go_sem, Nat.reduceAdd, Nat.reduceMul, Nat.reduceSub, Nat.reduceBEq, Nat.reduceLT, Nat.reduceLeDiff, reduceIte, reduceCtorEq, Int.reduceToNat, Int.reduceLE, Int.reduceLT, Int.reduceNe, Int.reduceMul, Int.reduceAdd, Int.reduceSub, Int.reduceDiv, Int.reduceMod, Int.reduceEq, Int.reduceGE, Int.reduceGT, Int.reduceNeg, Int.reduceBEq, Int.reduceBNe, Nat.reduceEqDiff]
    refine ⟨by omega, ?_⟩
    exact aret [4] rfl ⟨by rw [aboveL, if_pos (by omega)]; rfl, rfl⟩
  · have hl' : n ≤ c.length := by omega
    have hlt : (c.take n).length = n := by simp; omega
    refine pc_intro (ct_intro Tryz.func92 rfl Tryz.ntmps92 hB92 (by simp) fun h ρ w => go (N := 58) Tryz.ntmps92 300 ?_)
    simp only [go_sem, Nat.reduceAdd, Nat.reduceMul, Nat.reduceSub, Nat.reduceBEq, Nat.reduceLT, Nat.reduceLeDiff, reduceIte, reduceCtorEq, Int.reduceToNat, Int.reduceLE, Int.reduceLT, Int.reduceNe, Int.reduceMul, Int.reduceAdd, Int.reduceSub, Int.reduceDiv, Int.reduceMod, Int.reduceEq, Int.reduceGE, Int.reduceGT, Int.reduceNeg, Int.reduceBEq, Int.reduceBNe, Nat.reduceEqDiff, hl, hlt]
    repeat refine And.intro (by omega) ?_
    refine aloopX (ι := Nat) (κ := Nat) (fun j => n - j) (fun j => [(6, .int .i64 ((n : Int) - 1 - j)), (5, .sl 0 0 n n), (4, .str []), (1, .int .i64 n), (0, .str c)]) (fun j => [.arr 1 (bys (c.take (n - j) ++ List.replicate j 65))])
      (fun j => j ≤ n ∧ ∀ i, n - j ≤ i → i < n → c.getD i 0 = 90)
      (fun j => [(6, .int .i64 ((n : Int) - 1 - j)), (5, .sl 0 0 n n), (4, .str []), (1, .int .i64 n), (0, .str c)]) (fun j => [.arr 1 (bys (c.take (n - j) ++ List.replicate j 65))])
      (fun j => j ≤ n ∧ (∀ i, n - j ≤ i → i < n → c.getD i 0 = 90) ∧ (j = n ∨ c.getD (n - 1 - j) 0 ≠ 90)) 0 ⟨by omega, by omega⟩ ?_ ?_ ?_
    · have e0 : ((n : Int) - 1 - (0 : Nat)) = n - 1 := by omega
      simp only [e0, Nat.sub_zero, List.replicate_zero, List.append_nil]
      refine Shift.weak ?_
      simp only [wk, go_sem, Nat.reduceAdd, Nat.reduceMul, Nat.reduceSub, Nat.reduceBEq, Nat.reduceLT, Nat.reduceLeDiff, reduceIte, reduceCtorEq, Int.reduceToNat, Int.reduceLE, Int.reduceLT, Int.reduceNe, Int.reduceMul, Int.reduceAdd, Int.reduceSub, Int.reduceDiv, Int.reduceMod, Int.reduceEq, Int.reduceGE, Int.reduceGT, Int.reduceNeg, Int.reduceBEq, Int.reduceBNe, Nat.reduceEqDiff]
    · rintro j ⟨g1, g2, g3⟩
      by_cases hj : j = n
      · subst hj
        have d1 : decide ((j : Int) - 1 - j < 0) = true := by simp; omega
        refine go (N := 58) Tryz.ntmps92 300 ?_
        simp only [go_sem, Nat.reduceAdd, Nat.reduceMul, Nat.reduceSub, Nat.reduceBEq, Nat.reduceLT, Nat.reduceLeDiff, reduceIte, reduceCtorEq, Int.reduceToNat, Int.reduceLE, Int.reduceLT, Int.reduceNe, Int.reduceMul, Int.reduceAdd, Int.reduceSub, Int.reduceDiv, Int.reduceMod, Int.reduceEq, Int.reduceGE, Int.reduceGT, Int.reduceNeg, Int.reduceBEq, Int.reduceBNe, Nat.reduceEqDiff, d1]
        exact aret [4] rfl ⟨by rw [aboveL, if_neg (by omega), bump_none hl' g2]; rfl, rfl⟩
      have g3' := g3.resolve_left hj
      have hk : ((n : Int) - 1 - j).toNat = n - 1 - j := by omega
      have hlen : (c.take (n - j) ++ List.replicate j 65).length = n := by simp; omega
      have hg0 : (c.take (n - j) ++ List.replicate j 65).getD (n - 1 - j) 0 = c.getD (n - 1 - j) 0 := by
        simp only [List.getD, List.getElem?_append_left (show n - 1 - j < (c.take (n - j)).length by simp; omega), List.getElem?_take, if_pos (show n - 1 - j < n - j by omega)]
      have hg : (bys (c.take (n - j) ++ List.replicate j 65)).getD (n - 1 - j) .any = .int .u8 (c.getD (n - 1 - j) 0).toNat := by
        rw [bys_get (by omega), hg0]
      have hx : (c.getD (n - 1 - j) 0).toNat ≤ 90 := hcap _ (by simp only [List.getD, List.getElem?_eq_getElem (show n - 1 - j < c.length by omega), Option.getD_some]; exact List.getElem_mem _)
      have d1 : decide ((n : Int) - 1 - j < 0) = false := by simp; omega
      have hu : ((c.getD (n - 1 - j) 0).toNat : Int) + 1 = ((c.getD (n - 1 - j) 0 + 1).toNat : Int) := by
        have : ∀ x : UInt8, x.toNat ≤ 90 → (x.toNat : Int) + 1 = ((x + 1).toNat : Int) := fun x h => by
          have e : (x + 1).toNat = (x.toNat + 1) % 256 := by rw [UInt8.toNat_add]; rfl
          omega
        exact this _ hx
      have hsetl : (bys (c.take (n - j) ++ List.replicate j 65)).set (n - 1 - j) (.int .u8 (c.getD (n - 1 - j) 0 + 1).toNat) = bys (c.take (n - 1 - j) ++ (c.getD (n - 1 - j) 0 + 1) :: List.replicate j 65) := by
        rw [bys_set, show n - j = (n - 1 - j) + 1 by omega, take_k (by omega), List.append_assoc, List.set_append_right _ _ (by simp; omega)]
        simp [show n - 1 - j - min (n - 1 - j) c.length = 0 by omega]
      have hbs := bump_some (by omega) hl' g2 g3'
      have hab : aboveL c n = (fixR (c.take (n - 1 - j) ++ (c.getD (n - 1 - j) 0 + 1) :: List.replicate j 65).reverse).reverse := by
        rw [aboveL, if_neg (by omega), hbs]
        simp
      have hL : (c.take (n - 1 - j) ++ (c.getD (n - 1 - j) 0 + 1) :: List.replicate j 65).length = n := by simp; omega
      rw [fix_last h0 hL] at hab
      generalize c.take (n - 1 - j) ++ (c.getD (n - 1 - j) 0 + 1) :: List.replicate j 65 = L at hsetl hab hL
      have hk1 : ((n : Int) - 1).toNat = n - 1 := by omega
      have hgL := bys_get (l := L) (k := n - 1) (by omega)
      by_cases h65 : L.getD (n - 1) 0 = 65
      · have d2 : (((L.getD (n - 1) 0).toNat : Int) == 65) = true := by rw [h65]; rfl
        rw [if_pos h65] at hab
        have hset2 : (bys L).set (n - 1) (.int .u8 66) = bys (L.set (n - 1) 66) := bys_set L (n - 1) 66
        have hL2 : (L.set (n - 1) 66).length = n := by simp [hL]
        generalize L.set (n - 1) 66 = L2 at hset2 hab hL2
        have ht : List.take n (bys L2) = bys L2 := List.take_of_length_le (by simp [hL2])
        refine go (N := 58) Tryz.ntmps92 300 ?_
        simp only [go_sem, Nat.reduceAdd, Nat.reduceMul, Nat.reduceSub, Nat.reduceBEq, Nat.reduceLT, Nat.reduceLeDiff, reduceIte, reduceCtorEq, Int.reduceToNat, Int.reduceLE, Int.reduceLT, Int.reduceNe, Int.reduceMul, Int.reduceAdd, Int.reduceSub, Int.reduceDiv, Int.reduceMod, Int.reduceEq, Int.reduceGE, Int.reduceGT, Int.reduceNeg, Int.reduceBEq, Int.reduceBNe, Nat.reduceEqDiff, d1, bys_len, hlen, hk, hg, hu, hsetl, hk1, hgL, d2, hL, hset2, hL2, ht, (bys_text L2).1, (bys_text L2).2]
        repeat refine And.intro (by omega) ?_
        exact aret [4] rfl ⟨by rw [hab]; rfl, rfl⟩
      · have d2 : (((L.getD (n - 1) 0).toNat : Int) == 65) = false := by
          simp only [beq_eq_false_iff_ne, ne_eq]
          intro h
          exact h65 (UInt8.toNat_inj.1 (show (L.getD (n - 1) 0).toNat = 65 by omega))
        rw [if_neg h65] at hab
        refine go (N := 58) Tryz.ntmps92 300 ?_
        have ht : List.take n (bys L) = bys L := List.take_of_length_le (by simp [hL])
        simp only [go_sem, Nat.reduceAdd, Nat.reduceMul, Nat.reduceSub, Nat.reduceBEq, Nat.reduceLT, Nat.reduceLeDiff, reduceIte, reduceCtorEq, Int.reduceToNat, Int.reduceLE, Int.reduceLT, Int.reduceNe, Int.reduceMul, Int.reduceAdd, Int.reduceSub, Int.reduceDiv, Int.reduceMod, Int.reduceEq, Int.reduceGE, Int.reduceGT, Int.reduceNeg, Int.reduceBEq, Int.reduceBNe, Nat.reduceEqDiff, d1, bys_len, hlen, hk, hg, hu, hsetl, hk1, hgL, d2, hL, ht, (bys_text L).1, (bys_text L).2]
        repeat refine And.intro (by omega) ?_
        exact aret [4] rfl ⟨by rw [hab]; rfl, rfl⟩
    · rintro j ⟨g1, g2⟩ J Q hJ hQ
      have hlen : (c.take (n - j) ++ List.replicate j 65).length = n := by simp; omega
      refine go (N := 58) Tryz.ntmps92 300 ?_
      by_cases hj : j = n
      · have d1 : decide ((n : Int) - 1 - j ≥ 0) = false := by simp; omega
        simp only [go_sem, Nat.reduceAdd, Nat.reduceMul, Nat.reduceSub, Nat.reduceBEq, Nat.reduceLT, Nat.reduceLeDiff, reduceIte, reduceCtorEq, Int.reduceToNat, Int.reduceLE, Int.reduceLT, Int.reduceNe, Int.reduceMul, Int.reduceAdd, Int.reduceSub, Int.reduceDiv, Int.reduceMod, Int.reduceEq, Int.reduceGE, Int.reduceGT, Int.reduceNeg, Int.reduceBEq, Int.reduceBNe, Nat.reduceEqDiff, d1, bys_len, hlen]
        refine ainv (hQ j ⟨g1, g2, .inl hj⟩) (Shift.weak ?_)
        simp only [wk, go_sem, Nat.reduceAdd, Nat.reduceMul, Nat.reduceSub, Nat.reduceBEq, Nat.reduceLT, Nat.reduceLeDiff, reduceIte, reduceCtorEq, Int.reduceToNat, Int.reduceLE, Int.reduceLT, Int.reduceNe, Int.reduceMul, Int.reduceAdd, Int.reduceSub, Int.reduceDiv, Int.reduceMod, Int.reduceEq, Int.reduceGE, Int.reduceGT, Int.reduceNeg, Int.reduceBEq, Int.reduceBNe, Nat.reduceEqDiff]
      · have d1 : decide ((n : Int) - 1 - j ≥ 0) = true := by simp; omega
        have hk : ((n : Int) - 1 - j).toNat = n - 1 - j := by omega
        have hg0 : (c.take (n - j) ++ List.replicate j 65).getD (n - 1 - j) 0 = c.getD (n - 1 - j) 0 := by
          simp only [List.getD, List.getElem?_append_left (show n - 1 - j < (c.take (n - j)).length by simp; omega), List.getElem?_take, if_pos (show n - 1 - j < n - j by omega)]
        have hg : (bys (c.take (n - j) ++ List.replicate j 65)).getD (n - 1 - j) .any = .int .u8 (c.getD (n - 1 - j) 0).toNat := by
          rw [bys_get (by omega), hg0]
        by_cases h90 : c.getD (n - 1 - j) 0 = 90
        · have d2 : (((c.getD (n - 1 - j) 0).toNat : Int) == 90) = true := by rw [h90]; rfl
          have hset : (bys (c.take (n - j) ++ List.replicate j 65)).set (n - 1 - j) (.int .u8 65) = bys (c.take (n - (j + 1)) ++ List.replicate (j + 1) 65) := by
            have := bys_set (c.take (n - j) ++ List.replicate j 65) (n - 1 - j) 65
            refine this.trans (congrArg bys ?_)
            rw [show n - j = (n - 1 - j) + 1 by omega, take_k (by omega), List.append_assoc, List.set_append_right _ _ (by simp; omega), show n - (j + 1) = n - 1 - j by omega]
            simp [show n - 1 - j - min (n - 1 - j) c.length = 0 by omega, List.replicate_succ]
          simp only [go_sem, Nat.reduceAdd, Nat.reduceMul, Nat.reduceSub, Nat.reduceBEq, Nat.reduceLT, Nat.reduceLeDiff, reduceIte, reduceCtorEq, Int.reduceToNat, Int.reduceLE, Int.reduceLT, Int.reduceNe, Int.reduceMul, Int.reduceAdd, Int.reduceSub, Int.reduceDiv, Int.reduceMod, Int.reduceEq, Int.reduceGE, Int.reduceGT, Int.reduceNeg, Int.reduceBEq, Int.reduceBNe, Nat.reduceEqDiff, d1, d2, bys_len, hlen, hk, hg, hset]
          rw [show (n : Int) - 1 - j - 1 = (n : Int) - 1 - ((j + 1 : Nat) : Int) by omega]
          repeat refine And.intro (by omega) ?_
          refine ainv (hJ (j + 1) ⟨by omega, fun i h1 h2 => ?_⟩ (by omega)) (Shift.weak ?_)
          · by_cases hi : i = n - 1 - j
            · rw [hi]; exact h90
            · exact g2 i (by omega) h2
          · simp only [wk, go_sem, Nat.reduceAdd, Nat.reduceMul, Nat.reduceSub, Nat.reduceBEq, Nat.reduceLT, Nat.reduceLeDiff, reduceIte, reduceCtorEq, Int.reduceToNat, Int.reduceLE, Int.reduceLT, Int.reduceNe, Int.reduceMul, Int.reduceAdd, Int.reduceSub, Int.reduceDiv, Int.reduceMod, Int.reduceEq, Int.reduceGE, Int.reduceGT, Int.reduceNeg, Int.reduceBEq, Int.reduceBNe, Nat.reduceEqDiff]
        · have d2 : (((c.getD (n - 1 - j) 0).toNat : Int) == 90) = false := by
            simp only [beq_eq_false_iff_ne, ne_eq]
            intro h
            exact h90 (UInt8.toNat_inj.1 (show (c.getD (n - 1 - j) 0).toNat = 90 by omega))
          simp only [go_sem, Nat.reduceAdd, Nat.reduceMul, Nat.reduceSub, Nat.reduceBEq, Nat.reduceLT, Nat.reduceLeDiff, reduceIte, reduceCtorEq, Int.reduceToNat, Int.reduceLE, Int.reduceLT, Int.reduceNe, Int.reduceMul, Int.reduceAdd, Int.reduceSub, Int.reduceDiv, Int.reduceMod, Int.reduceEq, Int.reduceGE, Int.reduceGT, Int.reduceNeg, Int.reduceBEq, Int.reduceBNe, Nat.reduceEqDiff, d1, d2, bys_len, hlen, hk, hg]
          repeat refine And.intro (by omega) ?_
          refine ainv (hQ j ⟨g1, g2, .inr h90⟩) (Shift.weak ?_)
          simp only [wk, go_sem, Nat.reduceAdd, Nat.reduceMul, Nat.reduceSub, Nat.reduceBEq, Nat.reduceLT, Nat.reduceLeDiff, reduceIte, reduceCtorEq, Int.reduceToNat, Int.reduceLE, Int.reduceLT, Int.reduceNe, Int.reduceMul, Int.reduceAdd, Int.reduceSub, Int.reduceDiv, Int.reduceMod, Int.reduceEq, Int.reduceGE, Int.reduceGT, Int.reduceNeg, Int.reduceBEq, Int.reduceBNe, Nat.reduceEqDiff]
end Go.Proofs.YtpjbbpilgfihbaaGreatDoor
