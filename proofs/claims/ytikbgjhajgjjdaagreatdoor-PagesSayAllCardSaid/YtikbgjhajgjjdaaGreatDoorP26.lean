/- Numbers of scenes: what they are, divided, compared. Own work of this seat. -/
import Derived.Test.YtikbgjhajgjjdaaGreatDoorP23
import Derived.Test.YtikbgjhajgjjdaaGreatDoorP15
import Derived.Lib.AtoiErrMem
import Derived.Test.YtikbgjhajgjjdaaGreatDoorP25
import Derived.Test.YtikbgjhajgjjdaaGreatDoorP19
import Derived.Test.YtikbgjhajgjjdaaGreatDoorP13
set_option maxRecDepth 100000
set_option linter.unusedSimpArgs false
set_option linter.unusedVariables false
namespace Go.Proofs.YtikbgjhajgjjdaaGreatDoor
open Go Go.Av Go.RowKit
attribute [local go_sem ↓] br_true br_false dbr_true dbr_false dbri_true dbri_false dbrg_true dbrg_false
attribute [local go_sem] run cont br dbr dx dxc dgrd dyld dres dcall calm fieldPlace? allHas step1 opN grdN resN condN exitN stopN exitIt dOk xop xbin xint xarith xstr xbool xpick xnot xneg xextract xpart xpartOk xindex xfieldF fieldD xnew xbox xalloc xfieldAddr xptrAddIf xindexAddr xloadC xload putCells reElem xstoreB xstore xconv xtext xlen xlen2 xcall xfill xbuild cut rep xbuildSlice xbuildSliceD isRow elemD isU8 ev evs evp Go.Av.put Go.Av.get ofConst yldD yldV notBool_undef args0 cellsOf cond_true cond_false decide_true decide_false decide_eq_true_eq decide_eq_false_iff_not List.getElem?_cons_zero List.getElem?_cons_succ List.getElem?_nil List.getD_cons_zero List.getD_cons_succ List.getD_nil List.set_cons_zero List.set_cons_succ List.length_cons List.length_nil List.cons_append List.nil_append List.append_nil List.all_cons List.all_nil List.map_cons List.map_nil List.take_succ_cons List.take_zero List.drop_succ_cons List.drop_zero Bool.and_true Bool.true_and Bool.and_self Bool.and_false Bool.false_and one Go.Av.frozen beq_self_eq_true true_and and_true forall_const false_implies implies_true and_self Option.map_some Option.map_none Nat.zero_add Nat.add_zero Nat.zero_mul Nat.mul_one Nat.one_mul Int.toNat_zero ne_eq not_false_eq_true not_true_eq_false Bool.true_eq_false Bool.false_eq_true List.toList_toArray inr Go.Av.byteOf isByte decide_eq_decide Bool.not_true Bool.not_false Bool.not_eq_true' Bool.or_true Bool.true_or Bool.or_false Bool.false_or ge_iff_le gt_iff_lt and_assoc Bool.decide_eq_true beq_iff_eq beq_eq_false_iff_ne bne_iff_ne bne_self_eq_false if_true if_false Bool.and_eq_true Bool.or_eq_true Bool.and_eq_false_imp Bool.or_eq_false_iff Bool.not_eq_false' has Option.isSome_some Option.isSome_none Int.toNat_natCast Int.cast_ofNat_Int List.length_append xapp2 xapp xappS xappD xappB notInt srcOf srcB byteAV splice' xcut xcutS xcutF xcutB xcutN xcut0 cutL loOf hiOf evo xmake zelem xmax xcopy2 xcopyS xcopyB xnil xcut3 ixOf xclear2 xclearB List.getElem?_toArray xbin2 xnileq xempty xmkmap xmput xmputB xmputF isKey keyEq mfind xbin3 xeqs xeqop eqFs bothB leafEq xlook xlookB xlookF xbytes beq_c_n beq_n_c bne_c_n bne_n_c one_nil dxi dxic dbri rix dck reader blind opOk refOk Go.Op.operands Go.Call.operands List.contains_cons List.contains_nil dxg dxgc dbrg pck putD List.lookup_cons List.lookup_nil ts2 tb2 zl2 za2 Tryz.underlying2 ts3 tb3 zl3 za3 Tryz.underlying3 ts4 tb4 zl4 za4 Tryz.underlying4 ts5 tb5 zl5 za5 Tryz.underlying5 ts6 tb6 zl6 za6 Tryz.underlying6 ts7 tb7 za7 Tryz.underlying7 ts8 tb8 za8 Tryz.underlying8 ts9 tb9 zl9 za9 Tryz.underlying9 ts10 tb10 zl10 za10 Tryz.underlying10 ts11 tb11 zl11 za11 Tryz.underlying11 ts12 tb12 zl12 za12 Tryz.underlying12 ts13 tb13 za13 Tryz.underlying13 ts14 tb14 za14 Tryz.underlying14 ts18 tb18 za18 Tryz.underlying18 ts19 tb19 za19 Tryz.underlying19 ts21 tb21 zl21 za21 Tryz.underlying21 ts22 tb22 zl22 za22 Tryz.underlying22 ts24 tb24 za24 Tryz.underlying24 ts25 tb25 za25 Tryz.underlying25 ts26 tb26 zl26 za26 Tryz.underlying26 ts27 tb27 za27 Tryz.underlying27 ts28 tb28 za28 Tryz.underlying28 ts30 tb30 zl30 za30 Tryz.underlying30 ts31 tb31 zl31 za31 Tryz.underlying31 ts34 tb34 zl34 za34 Tryz.underlying34 ts35 tb35 zl35 za35 Tryz.underlying35 ts36 tb36 za36 Tryz.underlying36 ts37 tb37 za37 Tryz.underlying37 ts46 tb46 za46 Tryz.underlying46 ts47 tb47 za47 Tryz.underlying47 ts61 tb61 zl61 za61 Tryz.underlying61 ts62 tb62 za62 Tryz.underlying62 ts63 tb63 za63 Tryz.underlying63 ts66 tb66 zl66 za66 Tryz.underlying66 ts68 tb68 zl68 za68 Tryz.underlying68 ts74 tb74 za74 Tryz.underlying74 ts75 tb75 za75 Tryz.underlying75 ts77 tb77 zl77 za77 Tryz.underlying77 ts81 tb81 zl81 za81 Tryz.underlying81 ts82 tb82 za82 Tryz.underlying82 ts83 tb83 za83 Tryz.underlying83 ts86 tb86 zl86 za86 Tryz.underlying86 ts102 tb102 za102 Tryz.underlying102 ts103 tb103 za103 Tryz.underlying103 ts106 tb106 za106 Tryz.underlying106 ts107 tb107 za107 Tryz.underlying107 ts114 tb114 zl114 za114 Tryz.underlying114 ts117 tb117 zl117 za117 Tryz.underlying117 ts120 tb120 zl120 za120 Tryz.underlying120 ts133 tb133 zl133 za133 Tryz.underlying133 ts144 tb144 zl144 za144 Tryz.underlying144 ts151 tb151 zl151 za151 Tryz.underlying151 ts156 tb156 zl156 za156 Tryz.underlying156 ts160 tb160 Tryz.underlying160 ts169 tb169 za169 Tryz.underlying169 ts170 tb170 za170 Tryz.underlying170 ts175 tb175 Tryz.underlying175 ts180 tb180 za180 Tryz.underlying180 ts181 tb181 za181 Tryz.underlying181 ts185 tb185 za185 Tryz.underlying185 ts186 tb186 za186 Tryz.underlying186 ts187 tb187 Tryz.underlying187 ts189 tb189 Tryz.underlying189 ts190 tb190 Tryz.underlying190 ts191 tb191 za191 Tryz.underlying191 ts192 tb192 za192 Tryz.underlying192 ts196 tb196 zl196 za196 Tryz.underlying196 ts197 tb197 zl197 za197 Tryz.underlying197 ts199 tb199 zl199 za199 Tryz.underlying199 ts200 tb200 zl200 za200 Tryz.underlying200 ts201 tb201 za201 Tryz.underlying201 ts202 tb202 za202 Tryz.underlying202

def digB (c : UInt8) : Bool := digI c.toNat
def capB (c : UInt8) : Bool := capI c.toNat
def digs (s : List UInt8) : List UInt8 := s.takeWhile digB
def caps (s : List UInt8) : List UInt8 := s.dropWhile digB

theorem takeWhile_at {p : UInt8 → Bool} : ∀ {s : List UInt8} {k : Nat}, k ≤ s.length → (s.take k).all p = true → (k = s.length ∨ p (s.getD k 0) = false) → s.takeWhile p = s.take k ∧ s.dropWhile p = s.drop k
  | [], k, hk, _, _ => by simp
  | c :: s, 0, _, _, e => by
    rcases e with e | e
    · simp at e
    · simp at e; simp [e]
  | c :: s, k + 1, hk, h, e => by
    simp only [List.take_succ_cons, List.all_cons, Bool.and_eq_true] at h
    have ih := takeWhile_at (s := s) (k := k) (by simpa using hk) h.2 (by simpa using e)
    simp [h.1, ih.1, ih.2]

def numberL (s : List UInt8) : Bool :=
  (caps s).all capB && (!(decide (((caps s).length : Int) > 5) || Lib.hasSuffix (caps s) [65]) &&
    (if digs s = [48] then caps s != [] else decide (1 ≤ (digs s).length) && (decide ((digs s).length ≤ 3) && ((s.getD 0 0).toNat : Int) != 48)))

set_option maxHeartbeats 1000000 in
theorem isNumber_pc' (s : List UInt8) (hs : s.length < 1000000) : Pc Tryz.prog 26 [.str s] (· = .bool (numberL s)) := by
  refine pc_intro (ct_intro Tryz.func26 rfl Tryz.ntmps26 hB26 (by simp) fun h ρ w => go (N := 56) Tryz.ntmps26 300 ?_)
  simp only [go_sem, Nat.reduceAdd, Nat.reduceMul, Nat.reduceSub, Nat.reduceBEq, Nat.reduceLT, Nat.reduceLeDiff, reduceIte, reduceCtorEq, Int.reduceToNat, Int.reduceLE, Int.reduceLT, Int.reduceNe, Int.reduceMul, Int.reduceAdd, Int.reduceSub, Int.reduceDiv, Int.reduceMod, Int.reduceEq, Int.reduceGE, Int.reduceGT, Int.reduceNeg, Int.reduceBEq, Int.reduceBNe, Nat.reduceEqDiff]
  refine aloopX (ι := Nat) (κ := Unit) (fun i => s.length - i) (fun i => [(3, .int .i64 i), (0, .str s)]) (fun _ => []) (fun i => i ≤ s.length ∧ (s.take i).all digB = true)
    (fun _ => [(3, .int .i64 (digs s).length), (0, .str s)]) (fun _ => []) (fun _ => s = digs s ++ caps s) 0 ⟨by omega, by simp⟩ ?_ ?_ ?_
  · refine Shift.weak ?_
    simp only [wk, go_sem, Nat.reduceAdd, Nat.reduceMul, Nat.reduceSub, Nat.reduceBEq, Nat.reduceLT, Nat.reduceLeDiff, reduceIte, reduceCtorEq, Int.reduceToNat, Int.reduceLE, Int.reduceLT, Int.reduceNe, Int.reduceMul, Int.reduceAdd, Int.reduceSub, Int.reduceDiv, Int.reduceMod, Int.reduceEq, Int.reduceGE, Int.reduceGT, Int.reduceNeg, Int.reduceBEq, Int.reduceBNe, Nat.reduceEqDiff]
  · rintro - hd
    have hdl : (digs s).length ≤ s.length := (congrArg List.length hd).symm ▸ by simp
    have edr : List.drop (digs s).length s = caps s := (congrArg (List.drop (digs s).length) hd).trans (by simp)
    have etk : List.take (digs s).length s = digs s := (congrArg (List.take (digs s).length) hd).trans (by simp)
    have hcl : (caps s).length ≤ s.length := (congrArg List.length hd).symm ▸ by simp
    refine go (N := 56) Tryz.ntmps26 300 ?_
    simp only [go_sem, Nat.reduceAdd, Nat.reduceMul, Nat.reduceSub, Nat.reduceBEq, Nat.reduceLT, Nat.reduceLeDiff, reduceIte, reduceCtorEq, Int.reduceToNat, Int.reduceLE, Int.reduceLT, Int.reduceNe, Int.reduceMul, Int.reduceAdd, Int.reduceSub, Int.reduceDiv, Int.reduceMod, Int.reduceEq, Int.reduceGE, Int.reduceGT, Int.reduceNeg, Int.reduceBEq, Int.reduceBNe, Nat.reduceEqDiff, edr]
    refine ⟨by omega, by omega, by omega, ?_⟩
    refine aloopX (ι := Nat) (κ := Unit) (fun i => (caps s).length - i) (fun i => [(23, .int .i64 i), (22, .int .i64 (caps s).length), (4, .str (caps s)), (3, .int .i64 (digs s).length), (0, .str s)]) (fun _ => []) (fun i => i ≤ (caps s).length ∧ ((caps s).take i).all capB = true)
      (fun _ => [(4, .str (caps s)), (3, .int .i64 (digs s).length), (0, .str s)]) (fun _ => []) (fun _ => (caps s).all capB = true) 0 ⟨by omega, by simp⟩ ?_ ?_ ?_
    · refine Shift.weak ?_
      simp only [wk, go_sem, Nat.reduceAdd, Nat.reduceMul, Nat.reduceSub, Nat.reduceBEq, Nat.reduceLT, Nat.reduceLeDiff, reduceIte, reduceCtorEq, Int.reduceToNat, Int.reduceLE, Int.reduceLT, Int.reduceNe, Int.reduceMul, Int.reduceAdd, Int.reduceSub, Int.reduceDiv, Int.reduceMod, Int.reduceEq, Int.reduceGE, Int.reduceGT, Int.reduceNeg, Int.reduceBEq, Int.reduceBNe, Nat.reduceEqDiff]
    · rintro - hc
      by_cases h5 : ((caps s).length : Int) > 5
      · have d5 : decide (((caps s).length : Int) > 5) = true := by simpa using h5
        refine go (N := 56) Tryz.ntmps26 300 ?_
        simp only [go_sem, Nat.reduceAdd, Nat.reduceMul, Nat.reduceSub, Nat.reduceBEq, Nat.reduceLT, Nat.reduceLeDiff, reduceIte, reduceCtorEq, Int.reduceToNat, Int.reduceLE, Int.reduceLT, Int.reduceNe, Int.reduceMul, Int.reduceAdd, Int.reduceSub, Int.reduceDiv, Int.reduceMod, Int.reduceEq, Int.reduceGE, Int.reduceGT, Int.reduceNeg, Int.reduceBEq, Int.reduceBNe, Nat.reduceEqDiff, d5]
        exact aret [2] rfl ⟨by simp [resV, Av.get, numberL, d5], rfl⟩
      have d5 : decide (((caps s).length : Int) > 5) = false := by simpa using h5
      refine go (N := 56) Tryz.ntmps26 300 ?_
      simp only [go_sem, Nat.reduceAdd, Nat.reduceMul, Nat.reduceSub, Nat.reduceBEq, Nat.reduceLT, Nat.reduceLeDiff, reduceIte, reduceCtorEq, Int.reduceToNat, Int.reduceLE, Int.reduceLT, Int.reduceNe, Int.reduceMul, Int.reduceAdd, Int.reduceSub, Int.reduceDiv, Int.reduceMod, Int.reduceEq, Int.reduceGE, Int.reduceGT, Int.reduceNeg, Int.reduceBEq, Int.reduceBNe, Nat.reduceEqDiff, d5]
      refine pcall1 (hasSuffix_pc (caps s) [65] (by omega)) rfl (N := 56) Tryz.ntmps26 rfl (go (N := 56) Tryz.ntmps26 300 ?_)
      cases e6 : Lib.hasSuffix (caps s) [65] with
      | true =>
        simp only [go_sem, Nat.reduceAdd, Nat.reduceMul, Nat.reduceSub, Nat.reduceBEq, Nat.reduceLT, Nat.reduceLeDiff, reduceIte, reduceCtorEq, Int.reduceToNat, Int.reduceLE, Int.reduceLT, Int.reduceNe, Int.reduceMul, Int.reduceAdd, Int.reduceSub, Int.reduceDiv, Int.reduceMod, Int.reduceEq, Int.reduceGE, Int.reduceGT, Int.reduceNeg, Int.reduceBEq, Int.reduceBNe, Nat.reduceEqDiff]
        exact aret [2] rfl ⟨by simp [resV, Av.get, numberL, e6], rfl⟩
      | false =>
      by_cases h7 : digs s = [48]
      · have d7 : (digs s == [48]) = true := by simpa using h7
        simp only [go_sem, Nat.reduceAdd, Nat.reduceMul, Nat.reduceSub, Nat.reduceBEq, Nat.reduceLT, Nat.reduceLeDiff, reduceIte, reduceCtorEq, Int.reduceToNat, Int.reduceLE, Int.reduceLT, Int.reduceNe, Int.reduceMul, Int.reduceAdd, Int.reduceSub, Int.reduceDiv, Int.reduceMod, Int.reduceEq, Int.reduceGE, Int.reduceGT, Int.reduceNeg, Int.reduceBEq, Int.reduceBNe, Nat.reduceEqDiff, etk, d7]
        refine ⟨by omega, by omega, ?_⟩
        exact aret [2] rfl ⟨by simp [resV, Av.get, numberL, h7, d5, e6, hc], rfl⟩
      have d7 : (digs s == [48]) = false := by simpa using h7
      by_cases h8 : ((digs s).length : Int) ≥ 1
      · have d8 : decide (((digs s).length : Int) ≥ 1) = true := by simpa using h8
        have d8' : decide (1 ≤ (digs s).length) = true := by simp; omega
        by_cases h9 : ((digs s).length : Int) ≤ 3
        · have d9 : decide (((digs s).length : Int) ≤ 3) = true := by simpa using h9
          have d9' : decide ((digs s).length ≤ 3) = true := by simp; omega
          simp only [go_sem, Nat.reduceAdd, Nat.reduceMul, Nat.reduceSub, Nat.reduceBEq, Nat.reduceLT, Nat.reduceLeDiff, reduceIte, reduceCtorEq, Int.reduceToNat, Int.reduceLE, Int.reduceLT, Int.reduceNe, Int.reduceMul, Int.reduceAdd, Int.reduceSub, Int.reduceDiv, Int.reduceMod, Int.reduceEq, Int.reduceGE, Int.reduceGT, Int.reduceNeg, Int.reduceBEq, Int.reduceBNe, Nat.reduceEqDiff, etk, d7, d8, d9]
          refine ⟨by omega, by omega, by omega, ?_⟩
          exact aret [2] rfl ⟨by simp only [resV, Av.get, numberL, d5, e6, hc, if_neg h7, d8', d9']; rfl, rfl⟩
        · have d9 : decide (((digs s).length : Int) ≤ 3) = false := by simpa using h9
          have d9' : decide ((digs s).length ≤ 3) = false := by simp; omega
          simp only [go_sem, Nat.reduceAdd, Nat.reduceMul, Nat.reduceSub, Nat.reduceBEq, Nat.reduceLT, Nat.reduceLeDiff, reduceIte, reduceCtorEq, Int.reduceToNat, Int.reduceLE, Int.reduceLT, Int.reduceNe, Int.reduceMul, Int.reduceAdd, Int.reduceSub, Int.reduceDiv, Int.reduceMod, Int.reduceEq, Int.reduceGE, Int.reduceGT, Int.reduceNeg, Int.reduceBEq, Int.reduceBNe, Nat.reduceEqDiff, etk, d7, d8, d9]
          refine ⟨by omega, by omega, ?_⟩
          exact aret [2] rfl ⟨by simp only [resV, Av.get, numberL, d5, e6, hc, if_neg h7, d8', d9']; rfl, rfl⟩
      · have d8 : decide (((digs s).length : Int) ≥ 1) = false := by simpa using h8
        have d8' : decide (1 ≤ (digs s).length) = false := decide_eq_false (by omega)
        simp only [go_sem, Nat.reduceAdd, Nat.reduceMul, Nat.reduceSub, Nat.reduceBEq, Nat.reduceLT, Nat.reduceLeDiff, reduceIte, reduceCtorEq, Int.reduceToNat, Int.reduceLE, Int.reduceLT, Int.reduceNe, Int.reduceMul, Int.reduceAdd, Int.reduceSub, Int.reduceDiv, Int.reduceMod, Int.reduceEq, Int.reduceGE, Int.reduceGT, Int.reduceNeg, Int.reduceBEq, Int.reduceBNe, Nat.reduceEqDiff, etk, d7, d8]
        refine ⟨by omega, by omega, ?_⟩
        exact aret [2] rfl ⟨by simp only [resV, Av.get, numberL, d5, e6, hc, if_neg h7, d8']; rfl, rfl⟩
    · rintro i ⟨g1, g2⟩ J Q hJ hQ
      refine go (N := 56) Tryz.ntmps26 300 ?_
      by_cases hi : (i : Int) < (caps s).length
      · have hil : i < (caps s).length := by omega
        have hgd : (caps s).getD i 0 = (caps s)[i] := by simp [List.getD, hil]
        simp only [go_sem, Nat.reduceAdd, Nat.reduceMul, Nat.reduceSub, Nat.reduceBEq, Nat.reduceLT, Nat.reduceLeDiff, reduceIte, reduceCtorEq, Int.reduceToNat, Int.reduceLE, Int.reduceLT, Int.reduceNe, Int.reduceMul, Int.reduceAdd, Int.reduceSub, Int.reduceDiv, Int.reduceMod, Int.reduceEq, Int.reduceGE, Int.reduceGT, Int.reduceNeg, Int.reduceBEq, Int.reduceBNe, Nat.reduceEqDiff, hi, hgd]
        refine ⟨by omega, ?_⟩
        refine pcall1 (isCapital_pc _) rfl (N := 56) Tryz.ntmps26 rfl (go (N := 56) Tryz.ntmps26 300 ?_)
        cases c1 : capI ((caps s)[i].toNat : Int) with
        | true =>
          simp only [go_sem, Nat.reduceAdd, Nat.reduceMul, Nat.reduceSub, Nat.reduceBEq, Nat.reduceLT, Nat.reduceLeDiff, reduceIte, reduceCtorEq, Int.reduceToNat, Int.reduceLE, Int.reduceLT, Int.reduceNe, Int.reduceMul, Int.reduceAdd, Int.reduceSub, Int.reduceDiv, Int.reduceMod, Int.reduceEq, Int.reduceGE, Int.reduceGT, Int.reduceNeg, Int.reduceBEq, Int.reduceBNe, Nat.reduceEqDiff]
          rw [show (i : Int) + 1 = ((i + 1 : Nat) : Int) by omega]
          repeat refine And.intro (by omega) ?_
          refine ainv (hJ (i + 1) ⟨by omega, all_take_succ hil g2 c1⟩ (by omega)) (Shift.weak ?_)
          simp only [wk, go_sem, Nat.reduceAdd, Nat.reduceMul, Nat.reduceSub, Nat.reduceBEq, Nat.reduceLT, Nat.reduceLeDiff, reduceIte, reduceCtorEq, Int.reduceToNat, Int.reduceLE, Int.reduceLT, Int.reduceNe, Int.reduceMul, Int.reduceAdd, Int.reduceSub, Int.reduceDiv, Int.reduceMod, Int.reduceEq, Int.reduceGE, Int.reduceGT, Int.reduceNeg, Int.reduceBEq, Int.reduceBNe, Nat.reduceEqDiff]
        | false =>
          simp only [go_sem, Nat.reduceAdd, Nat.reduceMul, Nat.reduceSub, Nat.reduceBEq, Nat.reduceLT, Nat.reduceLeDiff, reduceIte, reduceCtorEq, Int.reduceToNat, Int.reduceLE, Int.reduceLT, Int.reduceNe, Int.reduceMul, Int.reduceAdd, Int.reduceSub, Int.reduceDiv, Int.reduceMod, Int.reduceEq, Int.reduceGE, Int.reduceGT, Int.reduceNeg, Int.reduceBEq, Int.reduceBNe, Nat.reduceEqDiff]
          exact aret [2] rfl ⟨by simp [resV, Av.get, numberL, all_false_at hil (p := capB) c1], rfl⟩
      · simp only [go_sem, Nat.reduceAdd, Nat.reduceMul, Nat.reduceSub, Nat.reduceBEq, Nat.reduceLT, Nat.reduceLeDiff, reduceIte, reduceCtorEq, Int.reduceToNat, Int.reduceLE, Int.reduceLT, Int.reduceNe, Int.reduceMul, Int.reduceAdd, Int.reduceSub, Int.reduceDiv, Int.reduceMod, Int.reduceEq, Int.reduceGE, Int.reduceGT, Int.reduceNeg, Int.reduceBEq, Int.reduceBNe, Nat.reduceEqDiff, hi]
        have hall : (caps s).all capB = true := by
          have ht : (caps s).take i = caps s := List.take_of_length_le (by omega)
          rw [ht] at g2; exact g2
        refine ainv (hQ () hall) (Shift.weak ?_)
        simp only [wk, go_sem, Nat.reduceAdd, Nat.reduceMul, Nat.reduceSub, Nat.reduceBEq, Nat.reduceLT, Nat.reduceLeDiff, reduceIte, reduceCtorEq, Int.reduceToNat, Int.reduceLE, Int.reduceLT, Int.reduceNe, Int.reduceMul, Int.reduceAdd, Int.reduceSub, Int.reduceDiv, Int.reduceMod, Int.reduceEq, Int.reduceGE, Int.reduceGT, Int.reduceNeg, Int.reduceBEq, Int.reduceBNe, Nat.reduceEqDiff]
  · rintro i ⟨g1, g2⟩ J Q hJ hQ
    have out : (i = s.length ∨ digB (s.getD i 0) = false) → ((digs s).length = i ∧ s = digs s ++ caps s) := fun e => by
      obtain ⟨e1, e2⟩ := takeWhile_at g1 g2 e
      exact ⟨by rw [digs, e1]; simp; omega, by simp [digs, caps]⟩
    refine go (N := 56) Tryz.ntmps26 300 ?_
    by_cases hi : (i : Int) < s.length
    · have hil : i < s.length := by omega
      have hgd : s.getD i 0 = s[i] := by simp [List.getD, hil]
      simp only [go_sem, Nat.reduceAdd, Nat.reduceMul, Nat.reduceSub, Nat.reduceBEq, Nat.reduceLT, Nat.reduceLeDiff, reduceIte, reduceCtorEq, Int.reduceToNat, Int.reduceLE, Int.reduceLT, Int.reduceNe, Int.reduceMul, Int.reduceAdd, Int.reduceSub, Int.reduceDiv, Int.reduceMod, Int.reduceEq, Int.reduceGE, Int.reduceGT, Int.reduceNeg, Int.reduceBEq, Int.reduceBNe, Nat.reduceEqDiff, hi, hgd]
      refine ⟨by omega, ?_⟩
      refine pcall1 (isDigit_pc _) rfl (N := 56) Tryz.ntmps26 rfl (go (N := 56) Tryz.ntmps26 300 ?_)
      cases c1 : digI (s[i].toNat : Int) with
      | true =>
        simp only [go_sem, Nat.reduceAdd, Nat.reduceMul, Nat.reduceSub, Nat.reduceBEq, Nat.reduceLT, Nat.reduceLeDiff, reduceIte, reduceCtorEq, Int.reduceToNat, Int.reduceLE, Int.reduceLT, Int.reduceNe, Int.reduceMul, Int.reduceAdd, Int.reduceSub, Int.reduceDiv, Int.reduceMod, Int.reduceEq, Int.reduceGE, Int.reduceGT, Int.reduceNeg, Int.reduceBEq, Int.reduceBNe, Nat.reduceEqDiff]
        rw [show (i : Int) + 1 = ((i + 1 : Nat) : Int) by omega]
        repeat refine And.intro (by omega) ?_
        refine ainv (hJ (i + 1) ⟨by omega, all_take_succ hil g2 c1⟩ (by omega)) (Shift.weak ?_)
        simp only [wk, go_sem, Nat.reduceAdd, Nat.reduceMul, Nat.reduceSub, Nat.reduceBEq, Nat.reduceLT, Nat.reduceLeDiff, reduceIte, reduceCtorEq, Int.reduceToNat, Int.reduceLE, Int.reduceLT, Int.reduceNe, Int.reduceMul, Int.reduceAdd, Int.reduceSub, Int.reduceDiv, Int.reduceMod, Int.reduceEq, Int.reduceGE, Int.reduceGT, Int.reduceNeg, Int.reduceBEq, Int.reduceBNe, Nat.reduceEqDiff]
      | false =>
        obtain ⟨e1, e2⟩ := out (.inr (by rw [hgd]; exact c1))
        simp only [go_sem, Nat.reduceAdd, Nat.reduceMul, Nat.reduceSub, Nat.reduceBEq, Nat.reduceLT, Nat.reduceLeDiff, reduceIte, reduceCtorEq, Int.reduceToNat, Int.reduceLE, Int.reduceLT, Int.reduceNe, Int.reduceMul, Int.reduceAdd, Int.reduceSub, Int.reduceDiv, Int.reduceMod, Int.reduceEq, Int.reduceGE, Int.reduceGT, Int.reduceNeg, Int.reduceBEq, Int.reduceBNe, Nat.reduceEqDiff]
        refine ainv (hQ () e2) (Shift.weak ?_)
        rw [e1]
        simp only [wk, go_sem, Nat.reduceAdd, Nat.reduceMul, Nat.reduceSub, Nat.reduceBEq, Nat.reduceLT, Nat.reduceLeDiff, reduceIte, reduceCtorEq, Int.reduceToNat, Int.reduceLE, Int.reduceLT, Int.reduceNe, Int.reduceMul, Int.reduceAdd, Int.reduceSub, Int.reduceDiv, Int.reduceMod, Int.reduceEq, Int.reduceGE, Int.reduceGT, Int.reduceNeg, Int.reduceBEq, Int.reduceBNe, Nat.reduceEqDiff]
    · simp only [go_sem, Nat.reduceAdd, Nat.reduceMul, Nat.reduceSub, Nat.reduceBEq, Nat.reduceLT, Nat.reduceLeDiff, reduceIte, reduceCtorEq, Int.reduceToNat, Int.reduceLE, Int.reduceLT, Int.reduceNe, Int.reduceMul, Int.reduceAdd, Int.reduceSub, Int.reduceDiv, Int.reduceMod, Int.reduceEq, Int.reduceGE, Int.reduceGT, Int.reduceNeg, Int.reduceBEq, Int.reduceBNe, Nat.reduceEqDiff, hi]
      obtain ⟨e1, e2⟩ := out (.inl (by omega))
      refine ainv (hQ () e2) (Shift.weak ?_)
      rw [e1]
      simp only [wk, go_sem, Nat.reduceAdd, Nat.reduceMul, Nat.reduceSub, Nat.reduceBEq, Nat.reduceLT, Nat.reduceLeDiff, reduceIte, reduceCtorEq, Int.reduceToNat, Int.reduceLE, Int.reduceLT, Int.reduceNe, Int.reduceMul, Int.reduceAdd, Int.reduceSub, Int.reduceDiv, Int.reduceMod, Int.reduceEq, Int.reduceGE, Int.reduceGT, Int.reduceNeg, Int.reduceBEq, Int.reduceBNe, Nat.reduceEqDiff]

theorem same_below {w w' : World} (b : Below w.heap.size w w') : Same w w' := ⟨b.os, b.tape, b.output, b.size, b.block⟩
theorem one_str (s : List UInt8) : ∀ h vs', RL h Lf0 true vs' [.str s] → vs' = [.string ⟨s.toArray⟩] := by
  intro h vs' r
  cases r with | cons r1 r => cases r; rw [rv_str r1]
theorem one_int (k : IntKind) (n : Int) : ∀ h vs', RL h Lf0 true vs' [.int k n] → vs' = [.int k n] := by
  intro h vs' r
  cases r with | cons r1 r => cases r; rw [rv_int r1]
theorem str_int (s : List UInt8) (k : IntKind) (n : Int) : ∀ h vs', RL h Lf0 true vs' [.str s, .int k n] → vs' = [.string ⟨s.toArray⟩, .int k n] := by
  intro h vs' r
  cases r with | cons r1 r => cases r with | cons r2 r => cases r; rw [rv_str r1, rv_int r2]

theorem atoi_pc (s : List UInt8) (n : Int) (hl : s.length ≤ 18) (h : Lib.atoi s = some n) : Pc Tryz.prog 46 [.str s] (· = .tup [.int .i64 n, .raw .nilIface]) :=
  pc_lib [_] (.tuple #[.int .i64 n, .nilIface]) hB46 (one_str s) (fun h => .tup [_, _] [_, _] (.cons (.int _ _) (.cons (.raw _) .nil)))
    fun w => (Any.strconv_Atoi Tryz.lays172 ⟨s.toArray⟩ n (by simpa [ByteArray.size] using hl) h w).mono fun e w' ⟨h1, t, h2⟩ => ⟨h1, h2 ▸ same_below (Lib.bytesWorld_below _ _ _)⟩
theorem compare_str_pc (a b : List UInt8) : Pc Tryz.prog 90 [.str a, .str b] (· = .int .i64 (Lib.compareBytes a b)) :=
  pc_lib [_, _] (.int .i64 (Lib.compareBytes a b)) hB90 (two_strs a b) (fun h => .int _ _) fun w => (Any.strings_Compare Tryz.lays106 ⟨a.toArray⟩ ⟨b.toArray⟩ w).mono fun e w' ⟨h1, h2⟩ => ⟨h1, h2 ▸ .refl w⟩
theorem repeat_pc (s : List UInt8) (c : Nat) (hlen : s.length * c ≤ 1000000) (hc : c ≤ 1000000) : Pc Tryz.prog 18 [.str s, .int .i64 c] (· = .str (Lib.repeatL s c)) :=
  pc_lib [_, .int .i64 c] (.string ⟨(Lib.repeatL s c).toArray⟩) hB18 (str_int s .i64 c) (fun h => .str _)
    fun w => (Any.strings_Repeat Tryz.lays105 Tryz.Builder_Extra_105 ⟨s.toArray⟩ c w (by omega) (by simp [ByteArray.size]; omega)).mono fun e w' ⟨h1, h2⟩ => ⟨h1, same_below h2⟩

theorem isNaN_int_pc (x : Int) : Pc Tryz.prog 123 [.int .i64 x] (· = .bool false) := by
  refine pc_intro (ct_intro Tryz.func123 rfl Tryz.ntmps123 hB123 (by simp) fun h ρ w => go (N := 6) Tryz.ntmps123 300 ?_)
  simp only [go_sem, Nat.reduceAdd, Nat.reduceMul, Nat.reduceSub, Nat.reduceBEq, Nat.reduceLT, Nat.reduceLeDiff, reduceIte, reduceCtorEq, Int.reduceToNat, Int.reduceLE, Int.reduceLT, Int.reduceNe, Int.reduceMul, Int.reduceAdd, Int.reduceSub, Int.reduceDiv, Int.reduceMod, Int.reduceEq, Int.reduceGE, Int.reduceGT, Int.reduceNeg, Int.reduceBEq, Int.reduceBNe, Nat.reduceEqDiff]
  exact aret [2] rfl ⟨by simp [resV, Av.get], rfl⟩

def cmpI (x y : Int) : Int := if x < y then -1 else if x > y then 1 else 0

theorem cmp_int_pc (x y : Int) : Pc Tryz.prog 89 [.int .i64 x, .int .i64 y] (· = .int .i64 (cmpI x y)) := by
  refine pc_intro (ct_intro Tryz.func89 rfl Tryz.ntmps89 hB89 (by simp) fun h ρ w => go (N := 20) Tryz.ntmps89 300 ?_)
  simp only [go_sem, Nat.reduceAdd, Nat.reduceMul, Nat.reduceSub, Nat.reduceBEq, Nat.reduceLT, Nat.reduceLeDiff, reduceIte, reduceCtorEq, Int.reduceToNat, Int.reduceLE, Int.reduceLT, Int.reduceNe, Int.reduceMul, Int.reduceAdd, Int.reduceSub, Int.reduceDiv, Int.reduceMod, Int.reduceEq, Int.reduceGE, Int.reduceGT, Int.reduceNeg, Int.reduceBEq, Int.reduceBNe, Nat.reduceEqDiff]
  refine pcall1 (isNaN_int_pc _) rfl (N := 20) Tryz.ntmps89 rfl (go (N := 20) Tryz.ntmps89 300 ?_)
  simp only [go_sem, Nat.reduceAdd, Nat.reduceMul, Nat.reduceSub, Nat.reduceBEq, Nat.reduceLT, Nat.reduceLeDiff, reduceIte, reduceCtorEq, Int.reduceToNat, Int.reduceLE, Int.reduceLT, Int.reduceNe, Int.reduceMul, Int.reduceAdd, Int.reduceSub, Int.reduceDiv, Int.reduceMod, Int.reduceEq, Int.reduceGE, Int.reduceGT, Int.reduceNeg, Int.reduceBEq, Int.reduceBNe, Nat.reduceEqDiff]
  refine pcall1 (isNaN_int_pc _) rfl (N := 20) Tryz.ntmps89 rfl (go (N := 20) Tryz.ntmps89 300 ?_)
  by_cases h1 : x < y
  · have d1 : decide (x < y) = true := by simpa using h1
    simp only [go_sem, Nat.reduceAdd, Nat.reduceMul, Nat.reduceSub, Nat.reduceBEq, Nat.reduceLT, Nat.reduceLeDiff, reduceIte, reduceCtorEq, Int.reduceToNat, Int.reduceLE, Int.reduceLT, Int.reduceNe, Int.reduceMul, Int.reduceAdd, Int.reduceSub, Int.reduceDiv, Int.reduceMod, Int.reduceEq, Int.reduceGE, Int.reduceGT, Int.reduceNeg, Int.reduceBEq, Int.reduceBNe, Nat.reduceEqDiff, d1]
    exact aret [4] rfl ⟨by simp [resV, Av.get, cmpI, h1], rfl⟩
  have d1 : decide (x < y) = false := by simpa using h1
  by_cases h2 : x > y
  · have d2 : decide (x > y) = true := by simpa using h2
    simp only [go_sem, Nat.reduceAdd, Nat.reduceMul, Nat.reduceSub, Nat.reduceBEq, Nat.reduceLT, Nat.reduceLeDiff, reduceIte, reduceCtorEq, Int.reduceToNat, Int.reduceLE, Int.reduceLT, Int.reduceNe, Int.reduceMul, Int.reduceAdd, Int.reduceSub, Int.reduceDiv, Int.reduceMod, Int.reduceEq, Int.reduceGE, Int.reduceGT, Int.reduceNeg, Int.reduceBEq, Int.reduceBNe, Nat.reduceEqDiff, d1, d2]
    exact aret [4] rfl ⟨by simp [resV, Av.get, cmpI, h1, h2], rfl⟩
  have d2 : decide (x > y) = false := by simpa using h2
  simp only [go_sem, Nat.reduceAdd, Nat.reduceMul, Nat.reduceSub, Nat.reduceBEq, Nat.reduceLT, Nat.reduceLeDiff, reduceIte, reduceCtorEq, Int.reduceToNat, Int.reduceLE, Int.reduceLT, Int.reduceNe, Int.reduceMul, Int.reduceAdd, Int.reduceSub, Int.reduceDiv, Int.reduceMod, Int.reduceEq, Int.reduceGE, Int.reduceGT, Int.reduceNeg, Int.reduceBEq, Int.reduceBNe, Nat.reduceEqDiff, d1, d2]
  exact aret [4] rfl ⟨by simp [resV, Av.get, cmpI, h1, h2], rfl⟩

def orI (x y : Int) : Int := if x = 0 then y else x

theorem or_pc (x y : Int) : Pc Tryz.prog 88 [.fz 1 [.int .i64 x, .int .i64 y]] (· = .int .i64 (orI x y)) := by
  refine pc_intro (ct_intro Tryz.func88 rfl Tryz.ntmps88 hB88 (by simp) fun h ρ w => go (N := 18) Tryz.ntmps88 300 ?_)
  simp only [go_sem, Nat.reduceAdd, Nat.reduceMul, Nat.reduceSub, Nat.reduceBEq, Nat.reduceLT, Nat.reduceLeDiff, reduceIte, reduceCtorEq, Int.reduceToNat, Int.reduceLE, Int.reduceLT, Int.reduceNe, Int.reduceMul, Int.reduceAdd, Int.reduceSub, Int.reduceDiv, Int.reduceMod, Int.reduceEq, Int.reduceGE, Int.reduceGT, Int.reduceNeg, Int.reduceBEq, Int.reduceBNe, Nat.reduceEqDiff]
  refine aenter (around (go (N := 18) Tryz.ntmps88 300 ?_))
  by_cases h1 : x = 0
  · have d1 : (x != 0) = false := by simpa using h1
    simp only [go_sem, Nat.reduceAdd, Nat.reduceMul, Nat.reduceSub, Nat.reduceBEq, Nat.reduceLT, Nat.reduceLeDiff, reduceIte, reduceCtorEq, Int.reduceToNat, Int.reduceLE, Int.reduceLT, Int.reduceNe, Int.reduceMul, Int.reduceAdd, Int.reduceSub, Int.reduceDiv, Int.reduceMod, Int.reduceEq, Int.reduceGE, Int.reduceGT, Int.reduceNeg, Int.reduceBEq, Int.reduceBNe, Nat.reduceEqDiff, d1]
    refine aagain (around (go (N := 18) Tryz.ntmps88 300 ?_))
    by_cases h2 : y = 0
    · have d2 : (y != 0) = false := by simpa using h2
      simp only [go_sem, Nat.reduceAdd, Nat.reduceMul, Nat.reduceSub, Nat.reduceBEq, Nat.reduceLT, Nat.reduceLeDiff, reduceIte, reduceCtorEq, Int.reduceToNat, Int.reduceLE, Int.reduceLT, Int.reduceNe, Int.reduceMul, Int.reduceAdd, Int.reduceSub, Int.reduceDiv, Int.reduceMod, Int.reduceEq, Int.reduceGE, Int.reduceGT, Int.reduceNeg, Int.reduceBEq, Int.reduceBNe, Nat.reduceEqDiff, d2]
      refine aagain (around (go (N := 18) Tryz.ntmps88 300 ?_))
      simp only [go_sem, Nat.reduceAdd, Nat.reduceMul, Nat.reduceSub, Nat.reduceBEq, Nat.reduceLT, Nat.reduceLeDiff, reduceIte, reduceCtorEq, Int.reduceToNat, Int.reduceLE, Int.reduceLT, Int.reduceNe, Int.reduceMul, Int.reduceAdd, Int.reduceSub, Int.reduceDiv, Int.reduceMod, Int.reduceEq, Int.reduceGE, Int.reduceGT, Int.reduceNeg, Int.reduceBEq, Int.reduceBNe, Nat.reduceEqDiff]
      exact aret [2] rfl ⟨by simp [resV, Av.get, orI, h1, h2], rfl⟩
    have d2 : (y != 0) = true := by simpa using h2
    simp only [go_sem, Nat.reduceAdd, Nat.reduceMul, Nat.reduceSub, Nat.reduceBEq, Nat.reduceLT, Nat.reduceLeDiff, reduceIte, reduceCtorEq, Int.reduceToNat, Int.reduceLE, Int.reduceLT, Int.reduceNe, Int.reduceMul, Int.reduceAdd, Int.reduceSub, Int.reduceDiv, Int.reduceMod, Int.reduceEq, Int.reduceGE, Int.reduceGT, Int.reduceNeg, Int.reduceBEq, Int.reduceBNe, Nat.reduceEqDiff, d2]
    exact aret [2] rfl ⟨by simp [resV, Av.get, orI, h1], rfl⟩
  have d1 : (x != 0) = true := by simpa using h1
  simp only [go_sem, Nat.reduceAdd, Nat.reduceMul, Nat.reduceSub, Nat.reduceBEq, Nat.reduceLT, Nat.reduceLeDiff, reduceIte, reduceCtorEq, Int.reduceToNat, Int.reduceLE, Int.reduceLT, Int.reduceNe, Int.reduceMul, Int.reduceAdd, Int.reduceSub, Int.reduceDiv, Int.reduceMod, Int.reduceEq, Int.reduceGE, Int.reduceGT, Int.reduceNeg, Int.reduceBEq, Int.reduceBNe, Nat.reduceEqDiff, d1]
  exact aret [2] rfl ⟨by simp [resV, Av.get, orI, h1], rfl⟩

end Go.Proofs.YtikbgjhajgjjdaaGreatDoor
/- Words of a text. Own work of this seat. -/
set_option maxRecDepth 100000
set_option linter.unusedSimpArgs false
set_option linter.unusedVariables false
namespace Go.Proofs.YtikbgjhajgjjdaaGreatDoor
open Go Go.Av Go.RowKit

def letB (n : Int) : Bool := capI n || (decide (n ≥ 97) && decide (n ≤ 122))
structure Wst where
  letters : Bool
  word : List UInt8
  out : List (List UInt8)
def lowerC (c : UInt8) : UInt8 := if capI c.toNat then c + 32 else c
def wstep (s : Wst) (c : UInt8) : Wst :=
  if letB c.toNat || digI c.toNat then ⟨true, s.word ++ [lowerC c], s.out⟩
  else if ((c.toNat : Int) == 39) then ⟨s.letters, s.word ++ [c], s.out⟩
  else ⟨false, [], if s.letters then s.out ++ [s.word] else s.out⟩
def wordsL (s : List UInt8) : List (List UInt8) := ((s ++ [32]).foldl wstep ⟨false, [], []⟩).out
theorem frozen_strs (l : List (List UInt8)) : (flat (l.map AV.str)).all Av.frozen = true := by
  induction l with
  | nil => rfl
  | cons y l ih => simpa [flat, cellsOf, Av.frozen] using ih
theorem low_strs (n : Nat) (l : List (List UInt8)) : lowB n (.arr 1 (l.map .str)) = true := low_all (frozen_strs l)
end Go.Proofs.YtikbgjhajgjjdaaGreatDoor
