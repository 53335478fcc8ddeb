/- Numbers of scenes: between two others; the law NumbersAreDense, walked. Own work of this seat. -/
import Derived.Test.YtpjbbpilgfihbaaGreatDoorNb
import Derived.Test.YtpjbbpilgfihbaaGreatDoorSa
import Derived.Test.YtpjbbpilgfihbaaGreatDoorBi
set_option maxRecDepth 100000
set_option linter.unusedSimpArgs false
set_option linter.unusedVariables false
namespace Go.Proofs.YtpjbbpilgfihbaaGreatDoor
open Go Go.Av Go.RowKit
attribute [local go_sem ↓] br_true br_false dbr_true dbr_false
attribute [local go_sem] run cont br dbr dx dxc dgrd dyld dres dcall calm fieldPlace? allHas step1 opN grdN resN condN exitN stopN exitIt dOk xop xbin xint xarith xstr xbool xpick xnot xneg xextract xpart xpartOk xindex xfieldF fieldD xnew xbox xalloc xfieldAddr xptrAddIf xindexAddr xloadC xload putCells reElem xstoreB xstore xconv xtext xlen xlen2 xcall xfill xbuild cut rep xbuildSlice xbuildSliceD isRow elemD isU8 ev evs evp Go.Av.put Go.Av.get ofConst yldD yldV notBool_undef args0 cellsOf cond_true cond_false decide_true decide_false decide_eq_true_eq decide_eq_false_iff_not List.getElem?_cons_zero List.getElem?_cons_succ List.getElem?_nil List.getD_cons_zero List.getD_cons_succ List.getD_nil List.set_cons_zero List.set_cons_succ List.length_cons List.length_nil List.cons_append List.nil_append List.append_nil List.all_cons List.all_nil List.map_cons List.map_nil List.take_succ_cons List.take_zero List.drop_succ_cons List.drop_zero Bool.and_true Bool.true_and Bool.and_self Bool.and_false Bool.false_and one Go.Av.frozen beq_self_eq_true true_and and_true forall_const false_implies implies_true and_self Option.map_some Option.map_none Nat.zero_add Nat.add_zero Nat.zero_mul Nat.mul_one Nat.one_mul Int.toNat_zero ne_eq not_false_eq_true not_true_eq_false Bool.true_eq_false Bool.false_eq_true List.toList_toArray inr Go.Av.byteOf isByte decide_eq_decide Bool.not_true Bool.not_false Bool.not_eq_true' Bool.or_true Bool.true_or Bool.or_false Bool.false_or ge_iff_le gt_iff_lt and_assoc Bool.decide_eq_true beq_iff_eq beq_eq_false_iff_ne bne_iff_ne bne_self_eq_false if_true if_false Bool.and_eq_true Bool.or_eq_true Bool.and_eq_false_imp Bool.or_eq_false_iff Bool.not_eq_false' has Option.isSome_some Option.isSome_none Int.toNat_natCast Int.cast_ofNat_Int List.length_append xapp2 xapp xappS xappD xappB notInt srcOf srcB byteAV splice' xcut xcutS xcutF xcutB xcutN xcut0 cutL loOf hiOf evo xmake zelem xmax xcopy2 xcopyS xcopyB xnil xcut3 ixOf xclear2 xclearB List.getElem?_toArray xbin2 xnileq xempty xmkmap xmput xmputB xmputF isKey keyEq mfind xbin3 xeqs xeqop eqFs bothB leafEq xlook xlookB xlookF xbytes beq_c_n beq_n_c bne_c_n bne_n_c one_nil ts2 tb2 zl2 za2 Tryz.underlying2 ts3 tb3 zl3 za3 Tryz.underlying3 ts4 tb4 zl4 za4 Tryz.underlying4 ts5 tb5 zl5 za5 Tryz.underlying5 ts6 tb6 zl6 za6 Tryz.underlying6 ts7 tb7 za7 Tryz.underlying7 ts8 tb8 za8 Tryz.underlying8 ts9 tb9 zl9 za9 Tryz.underlying9 ts10 tb10 zl10 za10 Tryz.underlying10 ts11 tb11 zl11 za11 Tryz.underlying11 ts12 tb12 zl12 za12 Tryz.underlying12 ts13 tb13 za13 Tryz.underlying13 ts14 tb14 za14 Tryz.underlying14 ts18 tb18 za18 Tryz.underlying18 ts19 tb19 za19 Tryz.underlying19 ts21 tb21 zl21 za21 Tryz.underlying21 ts22 tb22 zl22 za22 Tryz.underlying22 ts24 tb24 za24 Tryz.underlying24 ts25 tb25 za25 Tryz.underlying25 ts27 tb27 zl27 za27 Tryz.underlying27 ts35 tb35 zl35 za35 Tryz.underlying35 ts36 tb36 za36 Tryz.underlying36 ts37 tb37 za37 Tryz.underlying37 ts39 tb39 zl39 za39 Tryz.underlying39 ts41 tb41 za41 Tryz.underlying41 ts42 tb42 za42 Tryz.underlying42 ts63 tb63 zl63 za63 Tryz.underlying63 ts64 tb64 zl64 za64 Tryz.underlying64 ts65 tb65 za65 Tryz.underlying65 ts66 tb66 za66 Tryz.underlying66 ts67 tb67 zl67 za67 Tryz.underlying67 ts69 tb69 za69 Tryz.underlying69 ts70 tb70 za70 Tryz.underlying70 ts73 tb73 za73 Tryz.underlying73 ts74 tb74 za74 Tryz.underlying74 ts75 tb75 zl75 za75 Tryz.underlying75 ts82 tb82 zl82 za82 Tryz.underlying82 ts96 tb96 za96 Tryz.underlying96 ts97 tb97 za97 Tryz.underlying97 ts103 tb103 za103 Tryz.underlying103 ts104 tb104 za104 Tryz.underlying104 ts109 tb109 zl109 za109 Tryz.underlying109 ts116 tb116 zl116 za116 Tryz.underlying116 ts117 tb117 za117 Tryz.underlying117 ts118 tb118 za118 Tryz.underlying118 ts120 tb120 zl120 za120 Tryz.underlying120 ts124 tb124 zl124 za124 Tryz.underlying124 ts126 tb126 za126 Tryz.underlying126 ts128 tb128 zl128 za128 Tryz.underlying128 ts130 tb130 za130 Tryz.underlying130 ts131 tb131 za131 Tryz.underlying131 ts153 tb153 zl153 za153 Tryz.underlying153 ts167 tb167 zl167 za167 Tryz.underlying167 ts171 tb171 zl171 za171 Tryz.underlying171 ts177 tb177 zl177 za177 Tryz.underlying177 ts183 tb183 zl183 za183 Tryz.underlying183 ts189 tb189 zl189 za189 Tryz.underlying189 ts191 tb191 zl191 za191 Tryz.underlying191 ts195 tb195 za195 Tryz.underlying195 ts196 tb196 za196 Tryz.underlying196 ts198 tb198 zl198 za198 Tryz.underlying198 ts203 tb203 Tryz.underlying203 ts209 tb209 za209 Tryz.underlying209 ts210 tb210 za210 Tryz.underlying210 ts211 tb211 Tryz.underlying211 ts216 tb216 za216 Tryz.underlying216 ts217 tb217 za217 Tryz.underlying217 ts220 tb220 Tryz.underlying220 ts225 tb225 Tryz.underlying225 ts226 tb226 Tryz.underlying226 ts227 tb227 za227 Tryz.underlying227 ts228 tb228 za228 Tryz.underlying228 ts232 tb232 zl232 za232 Tryz.underlying232 ts233 tb233 zl233 za233 Tryz.underlying233 ts235 tb235 zl235 za235 Tryz.underlying235 ts236 tb236 zl236 za236 Tryz.underlying236 ts237 tb237 za237 Tryz.underlying237 ts238 tb238 za238 Tryz.underlying238

def fitsB (no b : List UInt8) : Bool := no != [] && (b == [] || decide (compareN no b < 0))
def btw (a b : List UInt8) : Nat → Nat → List UInt8
  | 0, _ => []
  | f + 1, n => if fitsB (nextL a n) b then nextL a n else btw a b f (n + 1)
def betweenL (a b : List UInt8) : List UInt8 := btw a b 6 0

theorem between_pch {S : Std} (hS : LibOk S) (a b : List UInt8) (ha : okA a) (hb : b = [] ∨ (okD b ∧ b.length < 1000000)) : PcH Tryz.prog S 26 [.str a, .str b] (· = .str (betweenL a b)) := by
  refine pch_intro (cth_intro Tryz.func26 rfl Tryz.ntmps26 hB26 (by simp) fun h ρ w hg => go (N := 27) Tryz.ntmps26 300 ?_)
  simp only [go_sem, Nat.reduceAdd, Nat.reduceMul, Nat.reduceSub, Nat.reduceBEq, Nat.reduceLT, Nat.reduceLeDiff, reduceIte, reduceCtorEq, Int.reduceToNat, Int.reduceLE, Int.reduceLT, Int.reduceNe, Int.reduceMul, Int.reduceAdd, Int.reduceSub, Int.reduceDiv, Int.reduceMod, Int.reduceEq, Int.reduceGE, Int.reduceGT, Int.reduceNeg, Int.reduceBEq, Int.reduceBNe, Nat.reduceEqDiff]
  refine aloop (ι := Nat) (fun i => 6 - i) (fun i => [(7, .int .i64 i), (4, .str []), (0, .str a), (1, .str b)]) (fun _ => []) (fun i => i ≤ 6 ∧ betweenL a b = btw a b (6 - i) i) 0 ⟨by omega, rfl⟩ ?_ ?_
  · refine Shift.weak ?_
    simp only [wk, go_sem, Nat.reduceAdd, Nat.reduceMul, Nat.reduceSub, Nat.reduceBEq, Nat.reduceLT, Nat.reduceLeDiff, reduceIte, reduceCtorEq, Int.reduceToNat, Int.reduceLE, Int.reduceLT, Int.reduceNe, Int.reduceMul, Int.reduceAdd, Int.reduceSub, Int.reduceDiv, Int.reduceMod, Int.reduceEq, Int.reduceGE, Int.reduceGT, Int.reduceNeg, Int.reduceBEq, Int.reduceBNe, Nat.reduceEqDiff]
  · rintro i ⟨g1, g2⟩ J hJ
    by_cases hi : i < 6
    · have d1 : decide ((i : Int) < 6) = true := by simp; omega
      have hn := next_num (n := i) (by omega) ha
      rw [show 6 - i = (6 - (i + 1)) + 1 by omega, btw] at g2
      have again : fitsB (nextL a i) b = false → betweenL a b = btw a b (6 - (i + 1)) (i + 1) := fun e => by rw [e] at g2; simpa using g2
      have done : fitsB (nextL a i) b = true → betweenL a b = nextL a i := fun e => by rw [e] at g2; simpa using g2
      clear g2
      unfold fitsB at again done
      refine go (N := 27) Tryz.ntmps26 300 ?_
      simp only [go_sem, Nat.reduceAdd, Nat.reduceMul, Nat.reduceSub, Nat.reduceBEq, Nat.reduceLT, Nat.reduceLeDiff, reduceIte, reduceCtorEq, Int.reduceToNat, Int.reduceLE, Int.reduceLT, Int.reduceNe, Int.reduceMul, Int.reduceAdd, Int.reduceSub, Int.reduceDiv, Int.reduceMod, Int.reduceEq, Int.reduceGE, Int.reduceGT, Int.reduceNeg, Int.reduceBEq, Int.reduceBNe, Nat.reduceEqDiff, d1]
      refine pcallH1 hg (next_pch hS a i (by omega) ha) rfl (N := 27) Tryz.ntmps26 rfl (go (N := 27) Tryz.ntmps26 300 ?_)
      generalize nextL a i = no at hn again done ⊢
      by_cases h0 : no = []
      · have e0 : (no != []) = false := by simp [h0]
        simp only [go_sem, Nat.reduceAdd, Nat.reduceMul, Nat.reduceSub, Nat.reduceBEq, Nat.reduceLT, Nat.reduceLeDiff, reduceIte, reduceCtorEq, Int.reduceToNat, Int.reduceLE, Int.reduceLT, Int.reduceNe, Int.reduceMul, Int.reduceAdd, Int.reduceSub, Int.reduceDiv, Int.reduceMod, Int.reduceEq, Int.reduceGE, Int.reduceGT, Int.reduceNeg, Int.reduceBEq, Int.reduceBNe, Nat.reduceEqDiff, e0]
        rw [show (i : Int) + 1 = ((i + 1 : Nat) : Int) by omega]
        repeat refine And.intro (by omega) ?_
        refine ainv (hJ (i + 1) ⟨by omega, again (by rw [e0]; rfl)⟩ (by omega)) (Shift.weak ?_)
        simp only [wk, go_sem, Nat.reduceAdd, Nat.reduceMul, Nat.reduceSub, Nat.reduceBEq, Nat.reduceLT, Nat.reduceLeDiff, reduceIte, reduceCtorEq, Int.reduceToNat, Int.reduceLE, Int.reduceLT, Int.reduceNe, Int.reduceMul, Int.reduceAdd, Int.reduceSub, Int.reduceDiv, Int.reduceMod, Int.reduceEq, Int.reduceGE, Int.reduceGT, Int.reduceNeg, Int.reduceBEq, Int.reduceBNe, Nat.reduceEqDiff]
      · have e0 : (no != []) = true := by simp [h0]
        obtain ⟨n1, n2, n3⟩ := hn.resolve_left h0
        by_cases hb0 : b = []
        · have eb : (b == []) = true := by simp [hb0]
          simp only [go_sem, Nat.reduceAdd, Nat.reduceMul, Nat.reduceSub, Nat.reduceBEq, Nat.reduceLT, Nat.reduceLeDiff, reduceIte, reduceCtorEq, Int.reduceToNat, Int.reduceLE, Int.reduceLT, Int.reduceNe, Int.reduceMul, Int.reduceAdd, Int.reduceSub, Int.reduceDiv, Int.reduceMod, Int.reduceEq, Int.reduceGE, Int.reduceGT, Int.reduceNeg, Int.reduceBEq, Int.reduceBNe, Nat.reduceEqDiff, e0, eb]
          exact aret [4] rfl ⟨by rw [done (by rw [e0, eb]; rfl)]; rfl, rfl⟩
        · have eb : (b == []) = false := by simp [hb0]
          obtain ⟨b1, b2⟩ := hb.resolve_left hb0
          simp only [go_sem, Nat.reduceAdd, Nat.reduceMul, Nat.reduceSub, Nat.reduceBEq, Nat.reduceLT, Nat.reduceLeDiff, reduceIte, reduceCtorEq, Int.reduceToNat, Int.reduceLE, Int.reduceLT, Int.reduceNe, Int.reduceMul, Int.reduceAdd, Int.reduceSub, Int.reduceDiv, Int.reduceMod, Int.reduceEq, Int.reduceGE, Int.reduceGT, Int.reduceNeg, Int.reduceBEq, Int.reduceBNe, Nat.reduceEqDiff, e0, eb]
          refine pcall1 (compareN_pc no b (by omega) b2 n1 b1) rfl (N := 27) Tryz.ntmps26 rfl (go (N := 27) Tryz.ntmps26 300 ?_)
          by_cases hc : compareN no b < 0
          · have ec : decide (compareN no b < 0) = true := by simpa using hc
            simp only [go_sem, Nat.reduceAdd, Nat.reduceMul, Nat.reduceSub, Nat.reduceBEq, Nat.reduceLT, Nat.reduceLeDiff, reduceIte, reduceCtorEq, Int.reduceToNat, Int.reduceLE, Int.reduceLT, Int.reduceNe, Int.reduceMul, Int.reduceAdd, Int.reduceSub, Int.reduceDiv, Int.reduceMod, Int.reduceEq, Int.reduceGE, Int.reduceGT, Int.reduceNeg, Int.reduceBEq, Int.reduceBNe, Nat.reduceEqDiff, e0, eb, ec]
            exact aret [4] rfl ⟨by rw [done (by rw [e0, eb, ec]; rfl)]; rfl, rfl⟩
          · have ec : decide (compareN no b < 0) = false := by simpa using hc
            simp only [go_sem, Nat.reduceAdd, Nat.reduceMul, Nat.reduceSub, Nat.reduceBEq, Nat.reduceLT, Nat.reduceLeDiff, reduceIte, reduceCtorEq, Int.reduceToNat, Int.reduceLE, Int.reduceLT, Int.reduceNe, Int.reduceMul, Int.reduceAdd, Int.reduceSub, Int.reduceDiv, Int.reduceMod, Int.reduceEq, Int.reduceGE, Int.reduceGT, Int.reduceNeg, Int.reduceBEq, Int.reduceBNe, Nat.reduceEqDiff, e0, eb, ec]
            rw [show (i : Int) + 1 = ((i + 1 : Nat) : Int) by omega]
            repeat refine And.intro (by omega) ?_
            refine ainv (hJ (i + 1) ⟨by omega, again (by rw [e0, eb, ec]; rfl)⟩ (by omega)) (Shift.weak ?_)
            simp only [wk, go_sem, Nat.reduceAdd, Nat.reduceMul, Nat.reduceSub, Nat.reduceBEq, Nat.reduceLT, Nat.reduceLeDiff, reduceIte, reduceCtorEq, Int.reduceToNat, Int.reduceLE, Int.reduceLT, Int.reduceNe, Int.reduceMul, Int.reduceAdd, Int.reduceSub, Int.reduceDiv, Int.reduceMod, Int.reduceEq, Int.reduceGE, Int.reduceGT, Int.reduceNeg, Int.reduceBEq, Int.reduceBNe, Nat.reduceEqDiff]
    · have d1 : decide ((i : Int) < 6) = false := by simp; omega
      refine go (N := 27) Tryz.ntmps26 300 ?_
      simp only [go_sem, Nat.reduceAdd, Nat.reduceMul, Nat.reduceSub, Nat.reduceBEq, Nat.reduceLT, Nat.reduceLeDiff, reduceIte, reduceCtorEq, Int.reduceToNat, Int.reduceLE, Int.reduceLT, Int.reduceNe, Int.reduceMul, Int.reduceAdd, Int.reduceSub, Int.reduceDiv, Int.reduceMod, Int.reduceEq, Int.reduceGE, Int.reduceGT, Int.reduceNeg, Int.reduceBEq, Int.reduceBNe, Nat.reduceEqDiff, d1]
      have : i = 6 := by omega
      subst this
      exact aret [4] rfl ⟨by rw [g2]; rfl, rfl⟩

def betweenE (a b : List UInt8) : List UInt8 × Int :=
  if (a != [] && !numberL a) || (b != [] && !numberL b) then ([], 5)
  else if a != [] && (b != [] && decide (compareN a b ≥ 0)) then ([], 7)
  else if betweenL a b != [] then (betweenL a b, 0) else ([], 11)

theorem betweenE_pch {S : Std} (hS : LibOk S) (a b : List UInt8) (ha : a.length < 1000000) (hb : b.length < 1000000) : PcH Tryz.prog S 8 [.str a, .str b] (· = .tup [.str (betweenE a b).1, .int .i64 (betweenE a b).2]) := by
  have key : ∀ (x : List UInt8), x != [] → numberL x = true → okD x := fun x _ h => (number_okA h).1
  have rest : ((a != [] && !numberL a) || (b != [] && !numberL b)) = false → (a != [] && (b != [] && decide (compareN a b ≥ 0))) = false → betweenE a b = if betweenL a b != [] then (betweenL a b, 0) else ([], 11) := fun h1 h2 => by
    unfold betweenE; rw [h1, h2]; rfl
  have oA : (a != [] && !numberL a) = false → okA a := fun h => by
    by_cases h0 : a = []
    · exact .inl h0
    · have : numberL a = true := by simpa [h0] using h
      exact .inr (number_okA this)
  have oB : (b != [] && !numberL b) = false → b = [] ∨ (okD b ∧ b.length < 1000000) := fun h => by
    by_cases h0 : b = []
    · exact .inl h0
    · have : numberL b = true := by simpa [h0] using h
      exact .inr ⟨(number_okA this).1, hb⟩
  refine pch_intro (cth_intro Tryz.func8 rfl Tryz.ntmps8 hB8 (by simp) fun h ρ w hg => go (N := 43) Tryz.ntmps8 8 ?_)
  simp only [go_sem, Nat.reduceAdd, Nat.reduceMul, Nat.reduceSub, Nat.reduceBEq, Nat.reduceLT, Nat.reduceLeDiff, reduceIte, reduceCtorEq, Int.reduceToNat, Int.reduceLE, Int.reduceLT, Int.reduceNe, Int.reduceMul, Int.reduceAdd, Int.reduceSub, Int.reduceDiv, Int.reduceMod, Int.reduceEq, Int.reduceGE, Int.reduceGT, Int.reduceNeg, Int.reduceBEq, Int.reduceBNe, Nat.reduceEqDiff]
  refine amid (κ := Unit) (fun _ => [(4, .str []), (5, .int .i64 0), (0, .str a), (1, .str b)]) (fun _ => []) (fun _ => ((a != [] && !numberL a) || (b != [] && !numberL b)) = false ∧ (a != [] && (b != [] && decide (compareN a b ≥ 0))) = false) ?_ ?_
  · rintro - ⟨h1, h2⟩
    have h3 := rest h1 h2
    simp only [Bool.or_eq_false_iff] at h1
    refine go (N := 43) Tryz.ntmps8 300 ?_
    simp only [go_sem, Nat.reduceAdd, Nat.reduceMul, Nat.reduceSub, Nat.reduceBEq, Nat.reduceLT, Nat.reduceLeDiff, reduceIte, reduceCtorEq, Int.reduceToNat, Int.reduceLE, Int.reduceLT, Int.reduceNe, Int.reduceMul, Int.reduceAdd, Int.reduceSub, Int.reduceDiv, Int.reduceMod, Int.reduceEq, Int.reduceGE, Int.reduceGT, Int.reduceNeg, Int.reduceBEq, Int.reduceBNe, Nat.reduceEqDiff]
    refine pcallH1 hg (between_pch hS a b (oA h1.1) (oB h1.2)) rfl (N := 43) Tryz.ntmps8 rfl (go (N := 43) Tryz.ntmps8 300 ?_)
    by_cases h0 : betweenL a b = []
    · have e0 : (betweenL a b != []) = false := by simp [h0]
      simp only [go_sem, Nat.reduceAdd, Nat.reduceMul, Nat.reduceSub, Nat.reduceBEq, Nat.reduceLT, Nat.reduceLeDiff, reduceIte, reduceCtorEq, Int.reduceToNat, Int.reduceLE, Int.reduceLT, Int.reduceNe, Int.reduceMul, Int.reduceAdd, Int.reduceSub, Int.reduceDiv, Int.reduceMod, Int.reduceEq, Int.reduceGE, Int.reduceGT, Int.reduceNeg, Int.reduceBEq, Int.reduceBNe, Nat.reduceEqDiff, e0]
      exact aret [4, 5] rfl ⟨by rw [h3, e0]; rfl, rfl⟩
    · have e0 : (betweenL a b != []) = true := by simp [h0]
      simp only [go_sem, Nat.reduceAdd, Nat.reduceMul, Nat.reduceSub, Nat.reduceBEq, Nat.reduceLT, Nat.reduceLeDiff, reduceIte, reduceCtorEq, Int.reduceToNat, Int.reduceLE, Int.reduceLT, Int.reduceNe, Int.reduceMul, Int.reduceAdd, Int.reduceSub, Int.reduceDiv, Int.reduceMod, Int.reduceEq, Int.reduceGE, Int.reduceGT, Int.reduceNeg, Int.reduceBEq, Int.reduceBNe, Nat.reduceEqDiff, e0]
      exact aret [4, 5] rfl ⟨by rw [h3, e0]; rfl, rfl⟩
  · intro Q hQ
    have bad : ((a != [] && !numberL a) || (b != [] && !numberL b)) = true → betweenE a b = ([], 5) := fun h => by unfold betweenE; rw [h]; rfl
    have bad2 : ((a != [] && !numberL a) || (b != [] && !numberL b)) = false → (a != [] && (b != [] && decide (compareN a b ≥ 0))) = true → betweenE a b = ([], 7) := fun h h' => by unfold betweenE; rw [h, h']; rfl
    have partB : ∀ {x : Bool}, True := fun {_} => trivial
    cases a0 : a != [] with
    | false =>
      cases b0 : b != [] with
      | false =>
        refine go (N := 43) Tryz.ntmps8 300 ?_
        simp only [go_sem, Nat.reduceAdd, Nat.reduceMul, Nat.reduceSub, Nat.reduceBEq, Nat.reduceLT, Nat.reduceLeDiff, reduceIte, reduceCtorEq, Int.reduceToNat, Int.reduceLE, Int.reduceLT, Int.reduceNe, Int.reduceMul, Int.reduceAdd, Int.reduceSub, Int.reduceDiv, Int.reduceMod, Int.reduceEq, Int.reduceGE, Int.reduceGT, Int.reduceNeg, Int.reduceBEq, Int.reduceBNe, Nat.reduceEqDiff, a0, b0]
        refine ainv (hQ () ⟨by rw [a0, b0]; rfl, by rw [a0]; rfl⟩) (Shift.weak ?_)
        simp only [wk, go_sem, Nat.reduceAdd, Nat.reduceMul, Nat.reduceSub, Nat.reduceBEq, Nat.reduceLT, Nat.reduceLeDiff, reduceIte, reduceCtorEq, Int.reduceToNat, Int.reduceLE, Int.reduceLT, Int.reduceNe, Int.reduceMul, Int.reduceAdd, Int.reduceSub, Int.reduceDiv, Int.reduceMod, Int.reduceEq, Int.reduceGE, Int.reduceGT, Int.reduceNeg, Int.reduceBEq, Int.reduceBNe, Nat.reduceEqDiff]
      | true =>
        refine go (N := 43) Tryz.ntmps8 300 ?_
        simp only [go_sem, Nat.reduceAdd, Nat.reduceMul, Nat.reduceSub, Nat.reduceBEq, Nat.reduceLT, Nat.reduceLeDiff, reduceIte, reduceCtorEq, Int.reduceToNat, Int.reduceLE, Int.reduceLT, Int.reduceNe, Int.reduceMul, Int.reduceAdd, Int.reduceSub, Int.reduceDiv, Int.reduceMod, Int.reduceEq, Int.reduceGE, Int.reduceGT, Int.reduceNeg, Int.reduceBEq, Int.reduceBNe, Nat.reduceEqDiff, a0, b0]
        refine pcall1 (isNumber_pc' b hb) rfl (N := 43) Tryz.ntmps8 rfl (go (N := 43) Tryz.ntmps8 300 ?_)
        cases nb : numberL b with
        | false =>
          simp only [go_sem, Nat.reduceAdd, Nat.reduceMul, Nat.reduceSub, Nat.reduceBEq, Nat.reduceLT, Nat.reduceLeDiff, reduceIte, reduceCtorEq, Int.reduceToNat, Int.reduceLE, Int.reduceLT, Int.reduceNe, Int.reduceMul, Int.reduceAdd, Int.reduceSub, Int.reduceDiv, Int.reduceMod, Int.reduceEq, Int.reduceGE, Int.reduceGT, Int.reduceNeg, Int.reduceBEq, Int.reduceBNe, Nat.reduceEqDiff, a0, b0]
          exact aret [4, 5] rfl ⟨by rw [bad (by rw [a0, b0, nb]; rfl)]; rfl, rfl⟩
        | true =>
          simp only [go_sem, Nat.reduceAdd, Nat.reduceMul, Nat.reduceSub, Nat.reduceBEq, Nat.reduceLT, Nat.reduceLeDiff, reduceIte, reduceCtorEq, Int.reduceToNat, Int.reduceLE, Int.reduceLT, Int.reduceNe, Int.reduceMul, Int.reduceAdd, Int.reduceSub, Int.reduceDiv, Int.reduceMod, Int.reduceEq, Int.reduceGE, Int.reduceGT, Int.reduceNeg, Int.reduceBEq, Int.reduceBNe, Nat.reduceEqDiff, a0, b0]
          refine ainv (hQ () ⟨by rw [a0, b0, nb]; rfl, by rw [a0]; rfl⟩) (Shift.weak ?_)
          simp only [wk, go_sem, Nat.reduceAdd, Nat.reduceMul, Nat.reduceSub, Nat.reduceBEq, Nat.reduceLT, Nat.reduceLeDiff, reduceIte, reduceCtorEq, Int.reduceToNat, Int.reduceLE, Int.reduceLT, Int.reduceNe, Int.reduceMul, Int.reduceAdd, Int.reduceSub, Int.reduceDiv, Int.reduceMod, Int.reduceEq, Int.reduceGE, Int.reduceGT, Int.reduceNeg, Int.reduceBEq, Int.reduceBNe, Nat.reduceEqDiff]
    | true =>
      refine go (N := 43) Tryz.ntmps8 300 ?_
      simp only [go_sem, Nat.reduceAdd, Nat.reduceMul, Nat.reduceSub, Nat.reduceBEq, Nat.reduceLT, Nat.reduceLeDiff, reduceIte, reduceCtorEq, Int.reduceToNat, Int.reduceLE, Int.reduceLT, Int.reduceNe, Int.reduceMul, Int.reduceAdd, Int.reduceSub, Int.reduceDiv, Int.reduceMod, Int.reduceEq, Int.reduceGE, Int.reduceGT, Int.reduceNeg, Int.reduceBEq, Int.reduceBNe, Nat.reduceEqDiff, a0]
      refine pcall1 (isNumber_pc' a ha) rfl (N := 43) Tryz.ntmps8 rfl (go (N := 43) Tryz.ntmps8 300 ?_)
      cases na : numberL a with
      | false =>
        simp only [go_sem, Nat.reduceAdd, Nat.reduceMul, Nat.reduceSub, Nat.reduceBEq, Nat.reduceLT, Nat.reduceLeDiff, reduceIte, reduceCtorEq, Int.reduceToNat, Int.reduceLE, Int.reduceLT, Int.reduceNe, Int.reduceMul, Int.reduceAdd, Int.reduceSub, Int.reduceDiv, Int.reduceMod, Int.reduceEq, Int.reduceGE, Int.reduceGT, Int.reduceNeg, Int.reduceBEq, Int.reduceBNe, Nat.reduceEqDiff, a0]
        exact aret [4, 5] rfl ⟨by rw [bad (by rw [a0, na]; rfl)]; rfl, rfl⟩
      | true =>
        cases b0 : b != [] with
        | false =>
          simp only [go_sem, Nat.reduceAdd, Nat.reduceMul, Nat.reduceSub, Nat.reduceBEq, Nat.reduceLT, Nat.reduceLeDiff, reduceIte, reduceCtorEq, Int.reduceToNat, Int.reduceLE, Int.reduceLT, Int.reduceNe, Int.reduceMul, Int.reduceAdd, Int.reduceSub, Int.reduceDiv, Int.reduceMod, Int.reduceEq, Int.reduceGE, Int.reduceGT, Int.reduceNeg, Int.reduceBEq, Int.reduceBNe, Nat.reduceEqDiff, a0, b0]
          refine ainv (hQ () ⟨by rw [a0, b0, na]; rfl, by rw [a0, b0]; rfl⟩) (Shift.weak ?_)
          simp only [wk, go_sem, Nat.reduceAdd, Nat.reduceMul, Nat.reduceSub, Nat.reduceBEq, Nat.reduceLT, Nat.reduceLeDiff, reduceIte, reduceCtorEq, Int.reduceToNat, Int.reduceLE, Int.reduceLT, Int.reduceNe, Int.reduceMul, Int.reduceAdd, Int.reduceSub, Int.reduceDiv, Int.reduceMod, Int.reduceEq, Int.reduceGE, Int.reduceGT, Int.reduceNeg, Int.reduceBEq, Int.reduceBNe, Nat.reduceEqDiff]
        | true =>
          simp only [go_sem, Nat.reduceAdd, Nat.reduceMul, Nat.reduceSub, Nat.reduceBEq, Nat.reduceLT, Nat.reduceLeDiff, reduceIte, reduceCtorEq, Int.reduceToNat, Int.reduceLE, Int.reduceLT, Int.reduceNe, Int.reduceMul, Int.reduceAdd, Int.reduceSub, Int.reduceDiv, Int.reduceMod, Int.reduceEq, Int.reduceGE, Int.reduceGT, Int.reduceNeg, Int.reduceBEq, Int.reduceBNe, Nat.reduceEqDiff, a0, b0]
          refine pcall1 (isNumber_pc' b hb) rfl (N := 43) Tryz.ntmps8 rfl (go (N := 43) Tryz.ntmps8 300 ?_)
          cases nb : numberL b with
          | false =>
            simp only [go_sem, Nat.reduceAdd, Nat.reduceMul, Nat.reduceSub, Nat.reduceBEq, Nat.reduceLT, Nat.reduceLeDiff, reduceIte, reduceCtorEq, Int.reduceToNat, Int.reduceLE, Int.reduceLT, Int.reduceNe, Int.reduceMul, Int.reduceAdd, Int.reduceSub, Int.reduceDiv, Int.reduceMod, Int.reduceEq, Int.reduceGE, Int.reduceGT, Int.reduceNeg, Int.reduceBEq, Int.reduceBNe, Nat.reduceEqDiff, a0, b0]
            exact aret [4, 5] rfl ⟨by rw [bad (by rw [a0, b0, na, nb]; rfl)]; rfl, rfl⟩
          | true =>
            simp only [go_sem, Nat.reduceAdd, Nat.reduceMul, Nat.reduceSub, Nat.reduceBEq, Nat.reduceLT, Nat.reduceLeDiff, reduceIte, reduceCtorEq, Int.reduceToNat, Int.reduceLE, Int.reduceLT, Int.reduceNe, Int.reduceMul, Int.reduceAdd, Int.reduceSub, Int.reduceDiv, Int.reduceMod, Int.reduceEq, Int.reduceGE, Int.reduceGT, Int.reduceNeg, Int.reduceBEq, Int.reduceBNe, Nat.reduceEqDiff, a0, b0]
            refine pcall1 (compareN_pc a b ha hb (key a a0 na) (key b b0 nb)) rfl (N := 43) Tryz.ntmps8 rfl (go (N := 43) Tryz.ntmps8 300 ?_)
            cases hc : decide (compareN a b ≥ 0) with
            | true =>
              simp only [go_sem, Nat.reduceAdd, Nat.reduceMul, Nat.reduceSub, Nat.reduceBEq, Nat.reduceLT, Nat.reduceLeDiff, reduceIte, reduceCtorEq, Int.reduceToNat, Int.reduceLE, Int.reduceLT, Int.reduceNe, Int.reduceMul, Int.reduceAdd, Int.reduceSub, Int.reduceDiv, Int.reduceMod, Int.reduceEq, Int.reduceGE, Int.reduceGT, Int.reduceNeg, Int.reduceBEq, Int.reduceBNe, Nat.reduceEqDiff, a0, b0, hc]
              exact aret [4, 5] rfl ⟨by rw [bad2 (by rw [a0, b0, na, nb]; rfl) (by rw [a0, b0, hc]; rfl)]; rfl, rfl⟩
            | false =>
              simp only [go_sem, Nat.reduceAdd, Nat.reduceMul, Nat.reduceSub, Nat.reduceBEq, Nat.reduceLT, Nat.reduceLeDiff, reduceIte, reduceCtorEq, Int.reduceToNat, Int.reduceLE, Int.reduceLT, Int.reduceNe, Int.reduceMul, Int.reduceAdd, Int.reduceSub, Int.reduceDiv, Int.reduceMod, Int.reduceEq, Int.reduceGE, Int.reduceGT, Int.reduceNeg, Int.reduceBEq, Int.reduceBNe, Nat.reduceEqDiff, a0, b0, hc]
              refine ainv (hQ () ⟨by rw [a0, b0, na, nb]; rfl, by rw [a0, b0, hc]; rfl⟩) (Shift.weak ?_)
              simp only [wk, go_sem, Nat.reduceAdd, Nat.reduceMul, Nat.reduceSub, Nat.reduceBEq, Nat.reduceLT, Nat.reduceLeDiff, reduceIte, reduceCtorEq, Int.reduceToNat, Int.reduceLE, Int.reduceLT, Int.reduceNe, Int.reduceMul, Int.reduceAdd, Int.reduceSub, Int.reduceDiv, Int.reduceMod, Int.reduceEq, Int.reduceGE, Int.reduceGT, Int.reduceNeg, Int.reduceBEq, Int.reduceBNe, Nat.reduceEqDiff]

theorem checkNumber_pc (s : List UInt8) (hs : s.length < 1000000) : Pc Tryz.prog 10 [.str s] (· = .int .i64 (if numberL s then 0 else 5)) := by
  refine pc_intro (ct_intro Tryz.func10 rfl Tryz.ntmps10 hB10 (by simp) fun h ρ w => go (N := 6) Tryz.ntmps10 300 ?_)
  simp only [go_sem, Nat.reduceAdd, Nat.reduceMul, Nat.reduceSub, Nat.reduceBEq, Nat.reduceLT, Nat.reduceLeDiff, reduceIte, reduceCtorEq, Int.reduceToNat, Int.reduceLE, Int.reduceLT, Int.reduceNe, Int.reduceMul, Int.reduceAdd, Int.reduceSub, Int.reduceDiv, Int.reduceMod, Int.reduceEq, Int.reduceGE, Int.reduceGT, Int.reduceNeg, Int.reduceBEq, Int.reduceBNe, Nat.reduceEqDiff]
  refine pcall1 (isNumber_pc' s hs) rfl (N := 6) Tryz.ntmps10 rfl (go (N := 6) Tryz.ntmps10 300 ?_)
  cases e : numberL s with
  | true =>
    simp only [go_sem, Nat.reduceAdd, Nat.reduceMul, Nat.reduceSub, Nat.reduceBEq, Nat.reduceLT, Nat.reduceLeDiff, reduceIte, reduceCtorEq, Int.reduceToNat, Int.reduceLE, Int.reduceLT, Int.reduceNe, Int.reduceMul, Int.reduceAdd, Int.reduceSub, Int.reduceDiv, Int.reduceMod, Int.reduceEq, Int.reduceGE, Int.reduceGT, Int.reduceNeg, Int.reduceBEq, Int.reduceBNe, Nat.reduceEqDiff]
    exact aret [2] rfl ⟨rfl, rfl⟩
  | false =>
    simp only [go_sem, Nat.reduceAdd, Nat.reduceMul, Nat.reduceSub, Nat.reduceBEq, Nat.reduceLT, Nat.reduceLeDiff, reduceIte, reduceCtorEq, Int.reduceToNat, Int.reduceLE, Int.reduceLT, Int.reduceNe, Int.reduceMul, Int.reduceAdd, Int.reduceSub, Int.reduceDiv, Int.reduceMod, Int.reduceEq, Int.reduceGE, Int.reduceGT, Int.reduceNeg, Int.reduceBEq, Int.reduceBNe, Nat.reduceEqDiff]
    exact aret [2] rfl ⟨rfl, rfl⟩

def compareE (a b : List UInt8) : Int × Int := if !numberL a || !numberL b then (0, 5) else (compareN a b, 0)

theorem compareE_pc (a b : List UInt8) (ha : a.length < 1000000) (hb : b.length < 1000000) : Pc Tryz.prog 11 [.str a, .str b] (· = .tup [.int .i64 (compareE a b).1, .int .i64 (compareE a b).2]) := by
  unfold compareE
  refine pc_intro (ct_intro Tryz.func11 rfl Tryz.ntmps11 hB11 (by simp) fun h ρ w => go (N := 17) Tryz.ntmps11 300 ?_)
  simp only [go_sem, Nat.reduceAdd, Nat.reduceMul, Nat.reduceSub, Nat.reduceBEq, Nat.reduceLT, Nat.reduceLeDiff, reduceIte, reduceCtorEq, Int.reduceToNat, Int.reduceLE, Int.reduceLT, Int.reduceNe, Int.reduceMul, Int.reduceAdd, Int.reduceSub, Int.reduceDiv, Int.reduceMod, Int.reduceEq, Int.reduceGE, Int.reduceGT, Int.reduceNeg, Int.reduceBEq, Int.reduceBNe, Nat.reduceEqDiff]
  refine pcall1 (isNumber_pc' a ha) rfl (N := 17) Tryz.ntmps11 rfl (go (N := 17) Tryz.ntmps11 300 ?_)
  cases na : numberL a with
  | false =>
    simp only [go_sem, Nat.reduceAdd, Nat.reduceMul, Nat.reduceSub, Nat.reduceBEq, Nat.reduceLT, Nat.reduceLeDiff, reduceIte, reduceCtorEq, Int.reduceToNat, Int.reduceLE, Int.reduceLT, Int.reduceNe, Int.reduceMul, Int.reduceAdd, Int.reduceSub, Int.reduceDiv, Int.reduceMod, Int.reduceEq, Int.reduceGE, Int.reduceGT, Int.reduceNeg, Int.reduceBEq, Int.reduceBNe, Nat.reduceEqDiff]
    exact aret [4, 5] rfl ⟨rfl, rfl⟩
  | true =>
    simp only [go_sem, Nat.reduceAdd, Nat.reduceMul, Nat.reduceSub, Nat.reduceBEq, Nat.reduceLT, Nat.reduceLeDiff, reduceIte, reduceCtorEq, Int.reduceToNat, Int.reduceLE, Int.reduceLT, Int.reduceNe, Int.reduceMul, Int.reduceAdd, Int.reduceSub, Int.reduceDiv, Int.reduceMod, Int.reduceEq, Int.reduceGE, Int.reduceGT, Int.reduceNeg, Int.reduceBEq, Int.reduceBNe, Nat.reduceEqDiff]
    refine pcall1 (isNumber_pc' b hb) rfl (N := 17) Tryz.ntmps11 rfl (go (N := 17) Tryz.ntmps11 300 ?_)
    cases nb : numberL b with
    | false =>
      simp only [go_sem, Nat.reduceAdd, Nat.reduceMul, Nat.reduceSub, Nat.reduceBEq, Nat.reduceLT, Nat.reduceLeDiff, reduceIte, reduceCtorEq, Int.reduceToNat, Int.reduceLE, Int.reduceLT, Int.reduceNe, Int.reduceMul, Int.reduceAdd, Int.reduceSub, Int.reduceDiv, Int.reduceMod, Int.reduceEq, Int.reduceGE, Int.reduceGT, Int.reduceNeg, Int.reduceBEq, Int.reduceBNe, Nat.reduceEqDiff]
      exact aret [4, 5] rfl ⟨rfl, rfl⟩
    | true =>
      simp only [go_sem, Nat.reduceAdd, Nat.reduceMul, Nat.reduceSub, Nat.reduceBEq, Nat.reduceLT, Nat.reduceLeDiff, reduceIte, reduceCtorEq, Int.reduceToNat, Int.reduceLE, Int.reduceLT, Int.reduceNe, Int.reduceMul, Int.reduceAdd, Int.reduceSub, Int.reduceDiv, Int.reduceMod, Int.reduceEq, Int.reduceGE, Int.reduceGT, Int.reduceNeg, Int.reduceBEq, Int.reduceBNe, Nat.reduceEqDiff]
      refine pcall1 (compareN_pc a b ha hb (number_okA na).1 (number_okA nb).1) rfl (N := 17) Tryz.ntmps11 rfl (go (N := 17) Tryz.ntmps11 300 ?_)
      simp only [go_sem, Nat.reduceAdd, Nat.reduceMul, Nat.reduceSub, Nat.reduceBEq, Nat.reduceLT, Nat.reduceLeDiff, reduceIte, reduceCtorEq, Int.reduceToNat, Int.reduceLE, Int.reduceLT, Int.reduceNe, Int.reduceMul, Int.reduceAdd, Int.reduceSub, Int.reduceDiv, Int.reduceMod, Int.reduceEq, Int.reduceGE, Int.reduceGT, Int.reduceNeg, Int.reduceBEq, Int.reduceBNe, Nat.reduceEqDiff]
      exact aret [4, 5] rfl ⟨rfl, rfl⟩

def NoL : List (List UInt8) := [[], [49], [50], [57], [49, 50], [49, 50, 66], [49, 50, 65, 66], [49, 50, 66, 66], [49, 50, 90, 90, 90, 90, 90], [49, 51], [48, 66], [48, 65, 66], [48, 65, 65, 65, 65, 66], [57, 57, 57], [57, 57, 57, 66],
  [57, 57, 57, 90, 90, 90, 90, 90], [57, 57, 56, 90, 90, 90, 90, 90], [49, 65], [48], [48, 49], [49, 98], [49, 48, 48, 48]]

theorem no_mc (L : List Int) (k : Int) (h3 : 0 ≤ k) (h4 : k ≤ 1000000) : Mc Tryz.prog 7 2 (str L k) [] (fun r s => (∃ x ∈ NoL, r = .str x) ∧ s = str L (k + 1)) := by
  refine ct_intro Tryz.func7 rfl Tryz.ntmps7 hB7 (by simp) fun h ρ w => goF (N := 6) Tryz.ntmps7 300 ?_
  simp only [go_sem, Nat.reduceAdd, Nat.reduceMul, Nat.reduceSub, Nat.reduceBEq, Nat.reduceLT, Nat.reduceLeDiff, reduceIte, reduceCtorEq, Int.reduceToNat, Int.reduceLE, Int.reduceLT, Int.reduceNe, Int.reduceMul, Int.reduceAdd, Int.reduceSub, Int.reduceDiv, Int.reduceMod, Int.reduceEq, Int.reduceGE, Int.reduceGT, Int.reduceNeg, Int.reduceBEq, Int.reduceBNe, Nat.reduceEqDiff]
  refine mcall (one_mc L k NoL (by decide) (by decide) h3 h4) rfl rfl (id := 0) rfl (N := 6) Tryz.ntmps7 rfl ?_
  rintro _ _ ⟨⟨x, hx, rfl⟩, rfl⟩
  refine go (N := 6) Tryz.ntmps7 300 ?_
  simp only [go_sem, Nat.reduceAdd, Nat.reduceMul, Nat.reduceSub, Nat.reduceBEq, Nat.reduceLT, Nat.reduceLeDiff, reduceIte, reduceCtorEq, Int.reduceToNat, Int.reduceLE, Int.reduceLT, Int.reduceNe, Int.reduceMul, Int.reduceAdd, Int.reduceSub, Int.reduceDiv, Int.reduceMod, Int.reduceEq, Int.reduceGE, Int.reduceGT, Int.reduceNeg, Int.reduceBEq, Int.reduceBNe, Nat.reduceEqDiff]
  exact aret [2] rfl ⟨_, _, rfl, ⟨x, hx, rfl⟩, rfl, rfl, rfl⟩

/-- what the law asks of two numbers -/
def lawB (a b : List UInt8) : Bool :=
  let r := betweenE a b
  r.2 != 0 || (numberL r.1 && ((a == [] || compareE a r.1 == (-1, 0)) && ((b == [] || compareE r.1 b == (-1, 0)) &&
    (((betweenE a r.1).2 == 0 && (betweenE a r.1).1 != r.1 || (betweenE a r.1).2 == 11) && ((betweenE r.1 b).2 == 0 && (betweenE r.1 b).1 != r.1 || (betweenE r.1 b).2 == 11)))))
theorem law_all : (NoL.all fun a => NoL.all fun b => lawB a b) = true := by decide +kernel
theorem no_len : (NoL.all fun a => decide (a.length < 1000000)) = true := by decide
theorem res_len : (NoL.all fun a => NoL.all fun b => decide ((betweenE a b).1.length < 1000000)) = true := by decide +kernel

set_option maxHeartbeats 4000000 in
theorem numbers_pch {S : Std} (hS : LibOk S) (L : List Int) : PcH Tryz.prog S 3 [.fz 1 (L.map (.int .i64))] (· = .bool true) := by
  refine pch_intro (cth_intro Tryz.func3 rfl Tryz.ntmps3 hB3 (by simp) fun h ρ w hg => go (N := 106) Tryz.ntmps3 300 ?_)
  simp only [go_sem, Nat.reduceAdd, Nat.reduceMul, Nat.reduceSub, Nat.reduceBEq, Nat.reduceLT, Nat.reduceLeDiff, reduceIte, reduceCtorEq, Int.reduceToNat, Int.reduceLE, Int.reduceLT, Int.reduceNe, Int.reduceMul, Int.reduceAdd, Int.reduceSub, Int.reduceDiv, Int.reduceMod, Int.reduceEq, Int.reduceGE, Int.reduceGT, Int.reduceNeg, Int.reduceBEq, Int.reduceBNe, Nat.reduceEqDiff]
  refine mcall (agg := str L 0) (no_mc L 0 (by omega) (by omega)) rfl rfl (id := 0) rfl (N := 106) Tryz.ntmps3 rfl ?_
  rintro _ _ ⟨⟨a, ha, rfl⟩, rfl⟩
  refine go (N := 106) Tryz.ntmps3 300 ?_
  simp only [go_sem, Nat.reduceAdd, Nat.reduceMul, Nat.reduceSub, Nat.reduceBEq, Nat.reduceLT, Nat.reduceLeDiff, reduceIte, reduceCtorEq, Int.reduceToNat, Int.reduceLE, Int.reduceLT, Int.reduceNe, Int.reduceMul, Int.reduceAdd, Int.reduceSub, Int.reduceDiv, Int.reduceMod, Int.reduceEq, Int.reduceGE, Int.reduceGT, Int.reduceNeg, Int.reduceBEq, Int.reduceBNe, Nat.reduceEqDiff]
  refine mcall (no_mc L (0 + 1) (by omega) (by omega)) rfl rfl (id := 0) rfl (N := 106) Tryz.ntmps3 rfl ?_
  rintro _ _ ⟨⟨b, hb, rfl⟩, rfl⟩
  have hlaw := List.all_eq_true.1 (List.all_eq_true.1 law_all a ha) b hb
  have la := of_decide_eq_true (List.all_eq_true.1 no_len a ha)
  have lb := of_decide_eq_true (List.all_eq_true.1 no_len b hb)
  have lr := of_decide_eq_true (List.all_eq_true.1 (List.all_eq_true.1 res_len a ha) b hb)
  refine go (N := 106) Tryz.ntmps3 300 ?_
  simp only [go_sem, Nat.reduceAdd, Nat.reduceMul, Nat.reduceSub, Nat.reduceBEq, Nat.reduceLT, Nat.reduceLeDiff, reduceIte, reduceCtorEq, Int.reduceToNat, Int.reduceLE, Int.reduceLT, Int.reduceNe, Int.reduceMul, Int.reduceAdd, Int.reduceSub, Int.reduceDiv, Int.reduceMod, Int.reduceEq, Int.reduceGE, Int.reduceGT, Int.reduceNeg, Int.reduceBEq, Int.reduceBNe, Nat.reduceEqDiff]
  refine pcallH1 hg (betweenE_pch hS a b la lb) rfl (N := 106) Tryz.ntmps3 rfl (go (N := 106) Tryz.ntmps3 300 ?_)
  unfold lawB at hlaw
  generalize betweenE a b = r at hlaw lr ⊢
  obtain ⟨n, e⟩ := r
  simp only at hlaw lr ⊢
  cases e0 : e != 0 with
  | true =>
    simp only [go_sem, Nat.reduceAdd, Nat.reduceMul, Nat.reduceSub, Nat.reduceBEq, Nat.reduceLT, Nat.reduceLeDiff, reduceIte, reduceCtorEq, Int.reduceToNat, Int.reduceLE, Int.reduceLT, Int.reduceNe, Int.reduceMul, Int.reduceAdd, Int.reduceSub, Int.reduceDiv, Int.reduceMod, Int.reduceEq, Int.reduceGE, Int.reduceGT, Int.reduceNeg, Int.reduceBEq, Int.reduceBNe, Nat.reduceEqDiff, e0]
    refine pcallH1 hg (scripts_pch hS) rfl (N := 106) Tryz.ntmps3 rfl (go (N := 106) Tryz.ntmps3 300 ?_)
    simp only [go_sem, Nat.reduceAdd, Nat.reduceMul, Nat.reduceSub, Nat.reduceBEq, Nat.reduceLT, Nat.reduceLeDiff, reduceIte, reduceCtorEq, Int.reduceToNat, Int.reduceLE, Int.reduceLT, Int.reduceNe, Int.reduceMul, Int.reduceAdd, Int.reduceSub, Int.reduceDiv, Int.reduceMod, Int.reduceEq, Int.reduceGE, Int.reduceGT, Int.reduceNeg, Int.reduceBEq, Int.reduceBNe, Nat.reduceEqDiff]
    exact aret [2] rfl ⟨rfl, rfl⟩
  | false =>
  simp only [e0, Bool.false_or, Bool.and_eq_true] at hlaw
  obtain ⟨h1, h2, h3, h4, h5⟩ := hlaw
  simp only [go_sem, Nat.reduceAdd, Nat.reduceMul, Nat.reduceSub, Nat.reduceBEq, Nat.reduceLT, Nat.reduceLeDiff, reduceIte, reduceCtorEq, Int.reduceToNat, Int.reduceLE, Int.reduceLT, Int.reduceNe, Int.reduceMul, Int.reduceAdd, Int.reduceSub, Int.reduceDiv, Int.reduceMod, Int.reduceEq, Int.reduceGE, Int.reduceGT, Int.reduceNeg, Int.reduceBEq, Int.reduceBNe, Nat.reduceEqDiff, e0]
  refine pcall1 (checkNumber_pc n lr) rfl (N := 106) Tryz.ntmps3 rfl (go (N := 106) Tryz.ntmps3 300 ?_)
  simp only [go_sem, Nat.reduceAdd, Nat.reduceMul, Nat.reduceSub, Nat.reduceBEq, Nat.reduceLT, Nat.reduceLeDiff, reduceIte, reduceCtorEq, Int.reduceToNat, Int.reduceLE, Int.reduceLT, Int.reduceNe, Int.reduceMul, Int.reduceAdd, Int.reduceSub, Int.reduceDiv, Int.reduceMod, Int.reduceEq, Int.reduceGE, Int.reduceGT, Int.reduceNeg, Int.reduceBEq, Int.reduceBNe, Nat.reduceEqDiff, h1]
  refine pcall1 (compareE_pc a n la lr) rfl (N := 106) Tryz.ntmps3 rfl (go (N := 106) Tryz.ntmps3 300 ?_)
  have ca : a = [] ∨ compareE a n = (-1, 0) := by
    rcases Bool.or_eq_true_iff.1 h2 with h | h
    · exact .inl (by simpa using h)
    · exact .inr (by simpa using h)
  have cb : b = [] ∨ compareE n b = (-1, 0) := by
    rcases Bool.or_eq_true_iff.1 h3 with h | h
    · exact .inl (by simpa using h)
    · exact .inr (by simpa using h)
  have da : (a != []) = false ∨ ((a != []) = true ∧ ((compareE a n).2 != 0) = false ∧ ((compareE a n).1 != -1) = false) := by
    by_cases h0 : a = []
    · exact .inl (by simp [h0])
    · have := ca.resolve_left h0
      exact .inr ⟨by simp [h0], by rw [this]; rfl, by rw [this]; rfl⟩
  have db : (b != []) = false ∨ ((b != []) = true ∧ ((compareE n b).2 != 0) = false ∧ ((compareE n b).1 != -1) = false) := by
    by_cases h0 : b = []
    · exact .inl (by simp [h0])
    · have := cb.resolve_left h0
      exact .inr ⟨by simp [h0], by rw [this]; rfl, by rw [this]; rfl⟩
  simp only [Bool.or_eq_true, Bool.and_eq_true] at h4 h5
  have el1 : ((betweenE a n).2 == 11) = true → ((betweenE a n).2 == 0) = false := fun h => by
    have : (betweenE a n).2 = 11 := by simpa using h
    rw [this]; rfl
  have el2 : ((betweenE n b).2 == 11) = true → ((betweenE n b).2 == 0) = false := fun h => by
    have : (betweenE n b).2 = 11 := by simpa using h
    rw [this]; rfl
  rcases da with da | ⟨da, da2, da3⟩
  · rcases db with db | ⟨db, db2, db3⟩
    · simp only [go_sem, Nat.reduceAdd, Nat.reduceMul, Nat.reduceSub, Nat.reduceBEq, Nat.reduceLT, Nat.reduceLeDiff, reduceIte, reduceCtorEq, Int.reduceToNat, Int.reduceLE, Int.reduceLT, Int.reduceNe, Int.reduceMul, Int.reduceAdd, Int.reduceSub, Int.reduceDiv, Int.reduceMod, Int.reduceEq, Int.reduceGE, Int.reduceGT, Int.reduceNeg, Int.reduceBEq, Int.reduceBNe, Nat.reduceEqDiff, da]
      refine pcall1 (compareE_pc n b lr lb) rfl (N := 106) Tryz.ntmps3 rfl (go (N := 106) Tryz.ntmps3 300 ?_)
      simp only [go_sem, Nat.reduceAdd, Nat.reduceMul, Nat.reduceSub, Nat.reduceBEq, Nat.reduceLT, Nat.reduceLeDiff, reduceIte, reduceCtorEq, Int.reduceToNat, Int.reduceLE, Int.reduceLT, Int.reduceNe, Int.reduceMul, Int.reduceAdd, Int.reduceSub, Int.reduceDiv, Int.reduceMod, Int.reduceEq, Int.reduceGE, Int.reduceGT, Int.reduceNeg, Int.reduceBEq, Int.reduceBNe, Nat.reduceEqDiff, db]
      refine pcallH1 hg (betweenE_pch hS a n la lr) rfl (N := 106) Tryz.ntmps3 rfl (go (N := 106) Tryz.ntmps3 300 ?_)
      simp only [go_sem, Nat.reduceAdd, Nat.reduceMul, Nat.reduceSub, Nat.reduceBEq, Nat.reduceLT, Nat.reduceLeDiff, reduceIte, reduceCtorEq, Int.reduceToNat, Int.reduceLE, Int.reduceLT, Int.reduceNe, Int.reduceMul, Int.reduceAdd, Int.reduceSub, Int.reduceDiv, Int.reduceMod, Int.reduceEq, Int.reduceGE, Int.reduceGT, Int.reduceNeg, Int.reduceBEq, Int.reduceBNe, Nat.reduceEqDiff]
      refine pcallH1 hg (betweenE_pch hS n b lr lb) rfl (N := 106) Tryz.ntmps3 rfl (go (N := 106) Tryz.ntmps3 300 ?_)
      simp only [go_sem, Nat.reduceAdd, Nat.reduceMul, Nat.reduceSub, Nat.reduceBEq, Nat.reduceLT, Nat.reduceLeDiff, reduceIte, reduceCtorEq, Int.reduceToNat, Int.reduceLE, Int.reduceLT, Int.reduceNe, Int.reduceMul, Int.reduceAdd, Int.reduceSub, Int.reduceDiv, Int.reduceMod, Int.reduceEq, Int.reduceGE, Int.reduceGT, Int.reduceNeg, Int.reduceBEq, Int.reduceBNe, Nat.reduceEqDiff]
      refine pcallH1 hg (scripts_pch hS) rfl (N := 106) Tryz.ntmps3 rfl (go (N := 106) Tryz.ntmps3 300 ?_)
      rcases h4 with ⟨x0, x1⟩ | x2
      · have x0' : ((betweenE a n).2 == 0) = true := x0
        rcases h5 with ⟨y0, y1⟩ | y2
        · simp only [go_sem, Nat.reduceAdd, Nat.reduceMul, Nat.reduceSub, Nat.reduceBEq, Nat.reduceLT, Nat.reduceLeDiff, reduceIte, reduceCtorEq, Int.reduceToNat, Int.reduceLE, Int.reduceLT, Int.reduceNe, Int.reduceMul, Int.reduceAdd, Int.reduceSub, Int.reduceDiv, Int.reduceMod, Int.reduceEq, Int.reduceGE, Int.reduceGT, Int.reduceNeg, Int.reduceBEq, Int.reduceBNe, Nat.reduceEqDiff, x0, x1, y0, y1]
          exact aret [2] rfl ⟨rfl, rfl⟩
        · simp only [go_sem, Nat.reduceAdd, Nat.reduceMul, Nat.reduceSub, Nat.reduceBEq, Nat.reduceLT, Nat.reduceLeDiff, reduceIte, reduceCtorEq, Int.reduceToNat, Int.reduceLE, Int.reduceLT, Int.reduceNe, Int.reduceMul, Int.reduceAdd, Int.reduceSub, Int.reduceDiv, Int.reduceMod, Int.reduceEq, Int.reduceGE, Int.reduceGT, Int.reduceNeg, Int.reduceBEq, Int.reduceBNe, Nat.reduceEqDiff, x0, x1, y2, el2 y2]
          exact aret [2] rfl ⟨rfl, rfl⟩
      · rcases h5 with ⟨y0, y1⟩ | y2
        · simp only [go_sem, Nat.reduceAdd, Nat.reduceMul, Nat.reduceSub, Nat.reduceBEq, Nat.reduceLT, Nat.reduceLeDiff, reduceIte, reduceCtorEq, Int.reduceToNat, Int.reduceLE, Int.reduceLT, Int.reduceNe, Int.reduceMul, Int.reduceAdd, Int.reduceSub, Int.reduceDiv, Int.reduceMod, Int.reduceEq, Int.reduceGE, Int.reduceGT, Int.reduceNeg, Int.reduceBEq, Int.reduceBNe, Nat.reduceEqDiff, x2, el1 x2, y0, y1]
          exact aret [2] rfl ⟨rfl, rfl⟩
        · simp only [go_sem, Nat.reduceAdd, Nat.reduceMul, Nat.reduceSub, Nat.reduceBEq, Nat.reduceLT, Nat.reduceLeDiff, reduceIte, reduceCtorEq, Int.reduceToNat, Int.reduceLE, Int.reduceLT, Int.reduceNe, Int.reduceMul, Int.reduceAdd, Int.reduceSub, Int.reduceDiv, Int.reduceMod, Int.reduceEq, Int.reduceGE, Int.reduceGT, Int.reduceNeg, Int.reduceBEq, Int.reduceBNe, Nat.reduceEqDiff, x2, el1 x2, y2, el2 y2]
          exact aret [2] rfl ⟨rfl, rfl⟩
    · simp only [go_sem, Nat.reduceAdd, Nat.reduceMul, Nat.reduceSub, Nat.reduceBEq, Nat.reduceLT, Nat.reduceLeDiff, reduceIte, reduceCtorEq, Int.reduceToNat, Int.reduceLE, Int.reduceLT, Int.reduceNe, Int.reduceMul, Int.reduceAdd, Int.reduceSub, Int.reduceDiv, Int.reduceMod, Int.reduceEq, Int.reduceGE, Int.reduceGT, Int.reduceNeg, Int.reduceBEq, Int.reduceBNe, Nat.reduceEqDiff, da]
      refine pcall1 (compareE_pc n b lr lb) rfl (N := 106) Tryz.ntmps3 rfl (go (N := 106) Tryz.ntmps3 300 ?_)
      simp only [go_sem, Nat.reduceAdd, Nat.reduceMul, Nat.reduceSub, Nat.reduceBEq, Nat.reduceLT, Nat.reduceLeDiff, reduceIte, reduceCtorEq, Int.reduceToNat, Int.reduceLE, Int.reduceLT, Int.reduceNe, Int.reduceMul, Int.reduceAdd, Int.reduceSub, Int.reduceDiv, Int.reduceMod, Int.reduceEq, Int.reduceGE, Int.reduceGT, Int.reduceNeg, Int.reduceBEq, Int.reduceBNe, Nat.reduceEqDiff, db, db2, db3]
      refine pcallH1 hg (betweenE_pch hS a n la lr) rfl (N := 106) Tryz.ntmps3 rfl (go (N := 106) Tryz.ntmps3 300 ?_)
      simp only [go_sem, Nat.reduceAdd, Nat.reduceMul, Nat.reduceSub, Nat.reduceBEq, Nat.reduceLT, Nat.reduceLeDiff, reduceIte, reduceCtorEq, Int.reduceToNat, Int.reduceLE, Int.reduceLT, Int.reduceNe, Int.reduceMul, Int.reduceAdd, Int.reduceSub, Int.reduceDiv, Int.reduceMod, Int.reduceEq, Int.reduceGE, Int.reduceGT, Int.reduceNeg, Int.reduceBEq, Int.reduceBNe, Nat.reduceEqDiff]
      refine pcallH1 hg (betweenE_pch hS n b lr lb) rfl (N := 106) Tryz.ntmps3 rfl (go (N := 106) Tryz.ntmps3 300 ?_)
      simp only [go_sem, Nat.reduceAdd, Nat.reduceMul, Nat.reduceSub, Nat.reduceBEq, Nat.reduceLT, Nat.reduceLeDiff, reduceIte, reduceCtorEq, Int.reduceToNat, Int.reduceLE, Int.reduceLT, Int.reduceNe, Int.reduceMul, Int.reduceAdd, Int.reduceSub, Int.reduceDiv, Int.reduceMod, Int.reduceEq, Int.reduceGE, Int.reduceGT, Int.reduceNeg, Int.reduceBEq, Int.reduceBNe, Nat.reduceEqDiff]
      refine pcallH1 hg (scripts_pch hS) rfl (N := 106) Tryz.ntmps3 rfl (go (N := 106) Tryz.ntmps3 300 ?_)
      rcases h4 with ⟨x0, x1⟩ | x2
      · have x0' : ((betweenE a n).2 == 0) = true := x0
        rcases h5 with ⟨y0, y1⟩ | y2
        · simp only [go_sem, Nat.reduceAdd, Nat.reduceMul, Nat.reduceSub, Nat.reduceBEq, Nat.reduceLT, Nat.reduceLeDiff, reduceIte, reduceCtorEq, Int.reduceToNat, Int.reduceLE, Int.reduceLT, Int.reduceNe, Int.reduceMul, Int.reduceAdd, Int.reduceSub, Int.reduceDiv, Int.reduceMod, Int.reduceEq, Int.reduceGE, Int.reduceGT, Int.reduceNeg, Int.reduceBEq, Int.reduceBNe, Nat.reduceEqDiff, x0, x1, y0, y1]
          exact aret [2] rfl ⟨rfl, rfl⟩
        · simp only [go_sem, Nat.reduceAdd, Nat.reduceMul, Nat.reduceSub, Nat.reduceBEq, Nat.reduceLT, Nat.reduceLeDiff, reduceIte, reduceCtorEq, Int.reduceToNat, Int.reduceLE, Int.reduceLT, Int.reduceNe, Int.reduceMul, Int.reduceAdd, Int.reduceSub, Int.reduceDiv, Int.reduceMod, Int.reduceEq, Int.reduceGE, Int.reduceGT, Int.reduceNeg, Int.reduceBEq, Int.reduceBNe, Nat.reduceEqDiff, x0, x1, y2, el2 y2]
          exact aret [2] rfl ⟨rfl, rfl⟩
      · rcases h5 with ⟨y0, y1⟩ | y2
        · simp only [go_sem, Nat.reduceAdd, Nat.reduceMul, Nat.reduceSub, Nat.reduceBEq, Nat.reduceLT, Nat.reduceLeDiff, reduceIte, reduceCtorEq, Int.reduceToNat, Int.reduceLE, Int.reduceLT, Int.reduceNe, Int.reduceMul, Int.reduceAdd, Int.reduceSub, Int.reduceDiv, Int.reduceMod, Int.reduceEq, Int.reduceGE, Int.reduceGT, Int.reduceNeg, Int.reduceBEq, Int.reduceBNe, Nat.reduceEqDiff, x2, el1 x2, y0, y1]
          exact aret [2] rfl ⟨rfl, rfl⟩
        · simp only [go_sem, Nat.reduceAdd, Nat.reduceMul, Nat.reduceSub, Nat.reduceBEq, Nat.reduceLT, Nat.reduceLeDiff, reduceIte, reduceCtorEq, Int.reduceToNat, Int.reduceLE, Int.reduceLT, Int.reduceNe, Int.reduceMul, Int.reduceAdd, Int.reduceSub, Int.reduceDiv, Int.reduceMod, Int.reduceEq, Int.reduceGE, Int.reduceGT, Int.reduceNeg, Int.reduceBEq, Int.reduceBNe, Nat.reduceEqDiff, x2, el1 x2, y2, el2 y2]
          exact aret [2] rfl ⟨rfl, rfl⟩
  · rcases db with db | ⟨db, db2, db3⟩
    · simp only [go_sem, Nat.reduceAdd, Nat.reduceMul, Nat.reduceSub, Nat.reduceBEq, Nat.reduceLT, Nat.reduceLeDiff, reduceIte, reduceCtorEq, Int.reduceToNat, Int.reduceLE, Int.reduceLT, Int.reduceNe, Int.reduceMul, Int.reduceAdd, Int.reduceSub, Int.reduceDiv, Int.reduceMod, Int.reduceEq, Int.reduceGE, Int.reduceGT, Int.reduceNeg, Int.reduceBEq, Int.reduceBNe, Nat.reduceEqDiff, da, da2, da3]
      refine pcall1 (compareE_pc n b lr lb) rfl (N := 106) Tryz.ntmps3 rfl (go (N := 106) Tryz.ntmps3 300 ?_)
      simp only [go_sem, Nat.reduceAdd, Nat.reduceMul, Nat.reduceSub, Nat.reduceBEq, Nat.reduceLT, Nat.reduceLeDiff, reduceIte, reduceCtorEq, Int.reduceToNat, Int.reduceLE, Int.reduceLT, Int.reduceNe, Int.reduceMul, Int.reduceAdd, Int.reduceSub, Int.reduceDiv, Int.reduceMod, Int.reduceEq, Int.reduceGE, Int.reduceGT, Int.reduceNeg, Int.reduceBEq, Int.reduceBNe, Nat.reduceEqDiff, db]
      refine pcallH1 hg (betweenE_pch hS a n la lr) rfl (N := 106) Tryz.ntmps3 rfl (go (N := 106) Tryz.ntmps3 300 ?_)
      simp only [go_sem, Nat.reduceAdd, Nat.reduceMul, Nat.reduceSub, Nat.reduceBEq, Nat.reduceLT, Nat.reduceLeDiff, reduceIte, reduceCtorEq, Int.reduceToNat, Int.reduceLE, Int.reduceLT, Int.reduceNe, Int.reduceMul, Int.reduceAdd, Int.reduceSub, Int.reduceDiv, Int.reduceMod, Int.reduceEq, Int.reduceGE, Int.reduceGT, Int.reduceNeg, Int.reduceBEq, Int.reduceBNe, Nat.reduceEqDiff]
      refine pcallH1 hg (betweenE_pch hS n b lr lb) rfl (N := 106) Tryz.ntmps3 rfl (go (N := 106) Tryz.ntmps3 300 ?_)
      simp only [go_sem, Nat.reduceAdd, Nat.reduceMul, Nat.reduceSub, Nat.reduceBEq, Nat.reduceLT, Nat.reduceLeDiff, reduceIte, reduceCtorEq, Int.reduceToNat, Int.reduceLE, Int.reduceLT, Int.reduceNe, Int.reduceMul, Int.reduceAdd, Int.reduceSub, Int.reduceDiv, Int.reduceMod, Int.reduceEq, Int.reduceGE, Int.reduceGT, Int.reduceNeg, Int.reduceBEq, Int.reduceBNe, Nat.reduceEqDiff]
      refine pcallH1 hg (scripts_pch hS) rfl (N := 106) Tryz.ntmps3 rfl (go (N := 106) Tryz.ntmps3 300 ?_)
      rcases h4 with ⟨x0, x1⟩ | x2
      · have x0' : ((betweenE a n).2 == 0) = true := x0
        rcases h5 with ⟨y0, y1⟩ | y2
        · simp only [go_sem, Nat.reduceAdd, Nat.reduceMul, Nat.reduceSub, Nat.reduceBEq, Nat.reduceLT, Nat.reduceLeDiff, reduceIte, reduceCtorEq, Int.reduceToNat, Int.reduceLE, Int.reduceLT, Int.reduceNe, Int.reduceMul, Int.reduceAdd, Int.reduceSub, Int.reduceDiv, Int.reduceMod, Int.reduceEq, Int.reduceGE, Int.reduceGT, Int.reduceNeg, Int.reduceBEq, Int.reduceBNe, Nat.reduceEqDiff, x0, x1, y0, y1]
          exact aret [2] rfl ⟨rfl, rfl⟩
        · simp only [go_sem, Nat.reduceAdd, Nat.reduceMul, Nat.reduceSub, Nat.reduceBEq, Nat.reduceLT, Nat.reduceLeDiff, reduceIte, reduceCtorEq, Int.reduceToNat, Int.reduceLE, Int.reduceLT, Int.reduceNe, Int.reduceMul, Int.reduceAdd, Int.reduceSub, Int.reduceDiv, Int.reduceMod, Int.reduceEq, Int.reduceGE, Int.reduceGT, Int.reduceNeg, Int.reduceBEq, Int.reduceBNe, Nat.reduceEqDiff, x0, x1, y2, el2 y2]
          exact aret [2] rfl ⟨rfl, rfl⟩
      · rcases h5 with ⟨y0, y1⟩ | y2
        · simp only [go_sem, Nat.reduceAdd, Nat.reduceMul, Nat.reduceSub, Nat.reduceBEq, Nat.reduceLT, Nat.reduceLeDiff, reduceIte, reduceCtorEq, Int.reduceToNat, Int.reduceLE, Int.reduceLT, Int.reduceNe, Int.reduceMul, Int.reduceAdd, Int.reduceSub, Int.reduceDiv, Int.reduceMod, Int.reduceEq, Int.reduceGE, Int.reduceGT, Int.reduceNeg, Int.reduceBEq, Int.reduceBNe, Nat.reduceEqDiff, x2, el1 x2, y0, y1]
          exact aret [2] rfl ⟨rfl, rfl⟩
        · simp only [go_sem, Nat.reduceAdd, Nat.reduceMul, Nat.reduceSub, Nat.reduceBEq, Nat.reduceLT, Nat.reduceLeDiff, reduceIte, reduceCtorEq, Int.reduceToNat, Int.reduceLE, Int.reduceLT, Int.reduceNe, Int.reduceMul, Int.reduceAdd, Int.reduceSub, Int.reduceDiv, Int.reduceMod, Int.reduceEq, Int.reduceGE, Int.reduceGT, Int.reduceNeg, Int.reduceBEq, Int.reduceBNe, Nat.reduceEqDiff, x2, el1 x2, y2, el2 y2]
          exact aret [2] rfl ⟨rfl, rfl⟩
    · simp only [go_sem, Nat.reduceAdd, Nat.reduceMul, Nat.reduceSub, Nat.reduceBEq, Nat.reduceLT, Nat.reduceLeDiff, reduceIte, reduceCtorEq, Int.reduceToNat, Int.reduceLE, Int.reduceLT, Int.reduceNe, Int.reduceMul, Int.reduceAdd, Int.reduceSub, Int.reduceDiv, Int.reduceMod, Int.reduceEq, Int.reduceGE, Int.reduceGT, Int.reduceNeg, Int.reduceBEq, Int.reduceBNe, Nat.reduceEqDiff, da, da2, da3]
      refine pcall1 (compareE_pc n b lr lb) rfl (N := 106) Tryz.ntmps3 rfl (go (N := 106) Tryz.ntmps3 300 ?_)
      simp only [go_sem, Nat.reduceAdd, Nat.reduceMul, Nat.reduceSub, Nat.reduceBEq, Nat.reduceLT, Nat.reduceLeDiff, reduceIte, reduceCtorEq, Int.reduceToNat, Int.reduceLE, Int.reduceLT, Int.reduceNe, Int.reduceMul, Int.reduceAdd, Int.reduceSub, Int.reduceDiv, Int.reduceMod, Int.reduceEq, Int.reduceGE, Int.reduceGT, Int.reduceNeg, Int.reduceBEq, Int.reduceBNe, Nat.reduceEqDiff, db, db2, db3]
      refine pcallH1 hg (betweenE_pch hS a n la lr) rfl (N := 106) Tryz.ntmps3 rfl (go (N := 106) Tryz.ntmps3 300 ?_)
      simp only [go_sem, Nat.reduceAdd, Nat.reduceMul, Nat.reduceSub, Nat.reduceBEq, Nat.reduceLT, Nat.reduceLeDiff, reduceIte, reduceCtorEq, Int.reduceToNat, Int.reduceLE, Int.reduceLT, Int.reduceNe, Int.reduceMul, Int.reduceAdd, Int.reduceSub, Int.reduceDiv, Int.reduceMod, Int.reduceEq, Int.reduceGE, Int.reduceGT, Int.reduceNeg, Int.reduceBEq, Int.reduceBNe, Nat.reduceEqDiff]
      refine pcallH1 hg (betweenE_pch hS n b lr lb) rfl (N := 106) Tryz.ntmps3 rfl (go (N := 106) Tryz.ntmps3 300 ?_)
      simp only [go_sem, Nat.reduceAdd, Nat.reduceMul, Nat.reduceSub, Nat.reduceBEq, Nat.reduceLT, Nat.reduceLeDiff, reduceIte, reduceCtorEq, Int.reduceToNat, Int.reduceLE, Int.reduceLT, Int.reduceNe, Int.reduceMul, Int.reduceAdd, Int.reduceSub, Int.reduceDiv, Int.reduceMod, Int.reduceEq, Int.reduceGE, Int.reduceGT, Int.reduceNeg, Int.reduceBEq, Int.reduceBNe, Nat.reduceEqDiff]
      refine pcallH1 hg (scripts_pch hS) rfl (N := 106) Tryz.ntmps3 rfl (go (N := 106) Tryz.ntmps3 300 ?_)
      rcases h4 with ⟨x0, x1⟩ | x2
      · have x0' : ((betweenE a n).2 == 0) = true := x0
        rcases h5 with ⟨y0, y1⟩ | y2
        · simp only [go_sem, Nat.reduceAdd, Nat.reduceMul, Nat.reduceSub, Nat.reduceBEq, Nat.reduceLT, Nat.reduceLeDiff, reduceIte, reduceCtorEq, Int.reduceToNat, Int.reduceLE, Int.reduceLT, Int.reduceNe, Int.reduceMul, Int.reduceAdd, Int.reduceSub, Int.reduceDiv, Int.reduceMod, Int.reduceEq, Int.reduceGE, Int.reduceGT, Int.reduceNeg, Int.reduceBEq, Int.reduceBNe, Nat.reduceEqDiff, x0, x1, y0, y1]
          exact aret [2] rfl ⟨rfl, rfl⟩
        · simp only [go_sem, Nat.reduceAdd, Nat.reduceMul, Nat.reduceSub, Nat.reduceBEq, Nat.reduceLT, Nat.reduceLeDiff, reduceIte, reduceCtorEq, Int.reduceToNat, Int.reduceLE, Int.reduceLT, Int.reduceNe, Int.reduceMul, Int.reduceAdd, Int.reduceSub, Int.reduceDiv, Int.reduceMod, Int.reduceEq, Int.reduceGE, Int.reduceGT, Int.reduceNeg, Int.reduceBEq, Int.reduceBNe, Nat.reduceEqDiff, x0, x1, y2, el2 y2]
          exact aret [2] rfl ⟨rfl, rfl⟩
      · rcases h5 with ⟨y0, y1⟩ | y2
        · simp only [go_sem, Nat.reduceAdd, Nat.reduceMul, Nat.reduceSub, Nat.reduceBEq, Nat.reduceLT, Nat.reduceLeDiff, reduceIte, reduceCtorEq, Int.reduceToNat, Int.reduceLE, Int.reduceLT, Int.reduceNe, Int.reduceMul, Int.reduceAdd, Int.reduceSub, Int.reduceDiv, Int.reduceMod, Int.reduceEq, Int.reduceGE, Int.reduceGT, Int.reduceNeg, Int.reduceBEq, Int.reduceBNe, Nat.reduceEqDiff, x2, el1 x2, y0, y1]
          exact aret [2] rfl ⟨rfl, rfl⟩
        · simp only [go_sem, Nat.reduceAdd, Nat.reduceMul, Nat.reduceSub, Nat.reduceBEq, Nat.reduceLT, Nat.reduceLeDiff, reduceIte, reduceCtorEq, Int.reduceToNat, Int.reduceLE, Int.reduceLT, Int.reduceNe, Int.reduceMul, Int.reduceAdd, Int.reduceSub, Int.reduceDiv, Int.reduceMod, Int.reduceEq, Int.reduceGE, Int.reduceGT, Int.reduceNeg, Int.reduceBEq, Int.reduceBNe, Nat.reduceEqDiff, x2, el1 x2, y2, el2 y2]
          exact aret [2] rfl ⟨rfl, rfl⟩
end Go.Proofs.YtpjbbpilgfihbaaGreatDoor
