/- Numbers of scenes: the next one, the one between two others. Own work of this seat. -/
import Derived.Test.YtpjbbpilgfihbaaGreatDoorNa
import Derived.Lib.AppendIntMem
set_option maxRecDepth 100000
set_option linter.unusedSimpArgs false
set_option linter.unusedVariables false
namespace Go.Proofs.YtpjbbpilgfihbaaGreatDoor
open Go Go.Av Go.RowKit
attribute [local go_sem ↓] br_true br_false dbr_true dbr_false
attribute [local go_sem] run cont br dbr dx dxc dgrd dyld dres dcall calm fieldPlace? allHas step1 opN grdN resN condN exitN stopN exitIt dOk xop xbin xint xarith xstr xbool xpick xnot xneg xextract xpart xpartOk xindex xfieldF fieldD xnew xbox xalloc xfieldAddr xptrAddIf xindexAddr xloadC xload putCells reElem xstoreB xstore xconv xtext xlen xlen2 xcall xfill xbuild cut rep xbuildSlice xbuildSliceD isRow elemD isU8 ev evs evp Go.Av.put Go.Av.get ofConst yldD yldV notBool_undef args0 cellsOf cond_true cond_false decide_true decide_false decide_eq_true_eq decide_eq_false_iff_not List.getElem?_cons_zero List.getElem?_cons_succ List.getElem?_nil List.getD_cons_zero List.getD_cons_succ List.getD_nil List.set_cons_zero List.set_cons_succ List.length_cons List.length_nil List.cons_append List.nil_append List.append_nil List.all_cons List.all_nil List.map_cons List.map_nil List.take_succ_cons List.take_zero List.drop_succ_cons List.drop_zero Bool.and_true Bool.true_and Bool.and_self Bool.and_false Bool.false_and one Go.Av.frozen beq_self_eq_true true_and and_true forall_const false_implies implies_true and_self Option.map_some Option.map_none Nat.zero_add Nat.add_zero Nat.zero_mul Nat.mul_one Nat.one_mul Int.toNat_zero ne_eq not_false_eq_true not_true_eq_false Bool.true_eq_false Bool.false_eq_true List.toList_toArray inr Go.Av.byteOf isByte decide_eq_decide Bool.not_true Bool.not_false Bool.not_eq_true' Bool.or_true Bool.true_or Bool.or_false Bool.false_or ge_iff_le gt_iff_lt and_assoc Bool.decide_eq_true beq_iff_eq beq_eq_false_iff_ne bne_iff_ne bne_self_eq_false if_true if_false Bool.and_eq_true Bool.or_eq_true Bool.and_eq_false_imp Bool.or_eq_false_iff Bool.not_eq_false' has Option.isSome_some Option.isSome_none Int.toNat_natCast Int.cast_ofNat_Int List.length_append xapp2 xapp xappS xappD xappB notInt srcOf srcB byteAV splice' xcut xcutS xcutF xcutB xcutN xcut0 cutL loOf hiOf evo xmake zelem xmax xcopy2 xcopyS xcopyB xnil xcut3 ixOf xclear2 xclearB List.getElem?_toArray xbin2 xnileq xempty xmkmap xmput xmputB xmputF isKey keyEq mfind xbin3 xeqs xeqop eqFs bothB leafEq xlook xlookB xlookF xbytes beq_c_n beq_n_c bne_c_n bne_n_c one_nil ts2 tb2 zl2 za2 Tryz.underlying2 ts3 tb3 zl3 za3 Tryz.underlying3 ts4 tb4 zl4 za4 Tryz.underlying4 ts5 tb5 zl5 za5 Tryz.underlying5 ts6 tb6 zl6 za6 Tryz.underlying6 ts7 tb7 za7 Tryz.underlying7 ts8 tb8 za8 Tryz.underlying8 ts9 tb9 zl9 za9 Tryz.underlying9 ts10 tb10 zl10 za10 Tryz.underlying10 ts11 tb11 zl11 za11 Tryz.underlying11 ts12 tb12 zl12 za12 Tryz.underlying12 ts13 tb13 za13 Tryz.underlying13 ts14 tb14 za14 Tryz.underlying14 ts18 tb18 za18 Tryz.underlying18 ts19 tb19 za19 Tryz.underlying19 ts21 tb21 zl21 za21 Tryz.underlying21 ts22 tb22 zl22 za22 Tryz.underlying22 ts24 tb24 za24 Tryz.underlying24 ts25 tb25 za25 Tryz.underlying25 ts27 tb27 zl27 za27 Tryz.underlying27 ts35 tb35 zl35 za35 Tryz.underlying35 ts36 tb36 za36 Tryz.underlying36 ts37 tb37 za37 Tryz.underlying37 ts39 tb39 zl39 za39 Tryz.underlying39 ts41 tb41 za41 Tryz.underlying41 ts42 tb42 za42 Tryz.underlying42 ts63 tb63 zl63 za63 Tryz.underlying63 ts64 tb64 zl64 za64 Tryz.underlying64 ts65 tb65 za65 Tryz.underlying65 ts66 tb66 za66 Tryz.underlying66 ts67 tb67 zl67 za67 Tryz.underlying67 ts69 tb69 za69 Tryz.underlying69 ts70 tb70 za70 Tryz.underlying70 ts73 tb73 za73 Tryz.underlying73 ts74 tb74 za74 Tryz.underlying74 ts75 tb75 zl75 za75 Tryz.underlying75 ts82 tb82 zl82 za82 Tryz.underlying82 ts96 tb96 za96 Tryz.underlying96 ts97 tb97 za97 Tryz.underlying97 ts103 tb103 za103 Tryz.underlying103 ts104 tb104 za104 Tryz.underlying104 ts109 tb109 zl109 za109 Tryz.underlying109 ts116 tb116 zl116 za116 Tryz.underlying116 ts117 tb117 za117 Tryz.underlying117 ts118 tb118 za118 Tryz.underlying118 ts120 tb120 zl120 za120 Tryz.underlying120 ts124 tb124 zl124 za124 Tryz.underlying124 ts126 tb126 za126 Tryz.underlying126 ts128 tb128 zl128 za128 Tryz.underlying128 ts130 tb130 za130 Tryz.underlying130 ts131 tb131 za131 Tryz.underlying131 ts153 tb153 zl153 za153 Tryz.underlying153 ts167 tb167 zl167 za167 Tryz.underlying167 ts171 tb171 zl171 za171 Tryz.underlying171 ts177 tb177 zl177 za177 Tryz.underlying177 ts183 tb183 zl183 za183 Tryz.underlying183 ts189 tb189 zl189 za189 Tryz.underlying189 ts191 tb191 zl191 za191 Tryz.underlying191 ts195 tb195 za195 Tryz.underlying195 ts196 tb196 za196 Tryz.underlying196 ts198 tb198 zl198 za198 Tryz.underlying198 ts203 tb203 Tryz.underlying203 ts209 tb209 za209 Tryz.underlying209 ts210 tb210 za210 Tryz.underlying210 ts211 tb211 Tryz.underlying211 ts216 tb216 za216 Tryz.underlying216 ts217 tb217 za217 Tryz.underlying217 ts220 tb220 Tryz.underlying220 ts225 tb225 Tryz.underlying225 ts226 tb226 Tryz.underlying226 ts227 tb227 za227 Tryz.underlying227 ts228 tb228 za228 Tryz.underlying228 ts232 tb232 zl232 za232 Tryz.underlying232 ts233 tb233 zl233 za233 Tryz.underlying233 ts235 tb235 zl235 za235 Tryz.underlying235 ts236 tb236 zl236 za236 Tryz.underlying236 ts237 tb237 za237 Tryz.underlying237 ts238 tb238 za238 Tryz.underlying238

theorem itoa_pch {S : Std} (hS : LibOk S) (n : Int) (h0 : -9223372036854775808 ≤ n) (h1 : n ≤ 9223372036854775807) : PcH Tryz.prog S 93 [.int .i64 n] (· = .str (Lib.itoa n)) :=
  pch_lib [_] (.string ⟨(Lib.itoa n).toArray⟩) hB93 (one_int .i64 n) (fun h => .str _) fun w H => by
    obtain ⟨t, z, hp⟩ := hS.pow10
    refine (Any.strconv_Itoa Tryz.laysM171 n h0 h1 w ?_).mono fun e w' ⟨e1, k, os, e2⟩ => ⟨e1, e2 ▸ same_below (Lib.below_grow _ _ (Nat.le_refl _) _ _)⟩
    show w.var? _ _ = _
    have hg : Tryz.prog.globalNamed "internal/strconv.uint64pow10" = some 5 := by kernel_rfl
    simp only [World.var?, hg, Option.bind_some, H _ _ hp]

/-- at most three digits -/
def dig3 (d : Int) : List UInt8 :=
  if d.toNat < 10 then [UInt8.ofNat (48 + d.toNat)] else if d.toNat < 100 then [UInt8.ofNat (48 + d.toNat / 10), UInt8.ofNat (48 + d.toNat % 10)]
  else [UInt8.ofNat (48 + d.toNat / 100), UInt8.ofNat (48 + d.toNat / 10 % 10), UInt8.ofNat (48 + d.toNat % 10)]
theorem itoa_dig3 {d : Int} (h0 : 0 ≤ d) (h1 : d ≤ 999) : Lib.itoa d = dig3 d := by
  unfold Lib.itoa dig3
  rw [if_neg (by omega)]
  generalize hu : d.toNat = u
  have hu1 : u ≤ 999 := by omega
  by_cases h10 : u < 10
  · rw [if_pos h10, Lib.decDigits_one h10]
  · rw [if_neg h10]
    by_cases h100 : u < 100
    · rw [if_pos h100, Lib.decDigits_two h10 h100]
    · rw [if_neg h100, Lib.decDigits, dif_neg h10, Lib.decDigits_two (by omega) (by omega)]
      simp [Nat.div_div_eq_div_mul]
theorem dig3_len (d : Int) : 1 ≤ (dig3 d).length ∧ (dig3 d).length ≤ 3 := by
  unfold dig3
  split
  · simp
  · split <;> simp
theorem digB_of {n : Nat} (h : n < 10) : digB (UInt8.ofNat (48 + n)) = true := by
  have : (UInt8.ofNat (48 + n)).toNat = 48 + n := by simp; omega
  simp only [digB, digI, this]; simp; omega
theorem dig3_all {d : Int} (h0 : 0 ≤ d) (h1 : d ≤ 999) : (dig3 d).all digB = true := by
  unfold dig3
  split
  · simp only [List.all_cons, List.all_nil, digB_of (n := d.toNat) (by omega), Bool.and_true]
  · split
    · simp only [List.all_cons, List.all_nil, digB_of (n := d.toNat / 10) (by omega), digB_of (n := d.toNat % 10) (by omega), Bool.and_true]
    · simp only [List.all_cons, List.all_nil, digB_of (n := d.toNat / 100) (by omega), digB_of (n := d.toNat / 10 % 10) (by omega), digB_of (n := d.toNat % 10) (by omega), Bool.and_true]

def nextX (a : List UInt8) (n : Nat) : Int × List UInt8 :=
  if a = [] then (if n = 0 then (1, []) else (0, lowestL n))
  else if n = 0 then (pN a + 1, [])
  else if aboveL (caps a) n = [] then (pN a + 1, lowestL n) else (pN a, aboveL (caps a) n)
def nextL (a : List UInt8) (n : Nat) : List UInt8 := if (nextX a n).1 > 999 then [] else dig3 (nextX a n).1 ++ (nextX a n).2

def okA (a : List UInt8) : Prop := a = [] ∨ (okD a ∧ a.length < 1000 ∧ (caps a).all capB = true ∧ 0 ≤ pN a ∧ pN a < 1000000)

theorem cap_le {l : List UInt8} (h : l.all capB = true) : ∀ x ∈ l, x.toNat ≤ 90 := fun x hx => by
  have := List.all_eq_true.1 h x hx
  simp only [capB, capI, Bool.and_eq_true, decide_eq_true_eq] at this
  omega
theorem lowest_len (n : Nat) : (lowestL n).length ≤ n + 1 := by simp [lowestL, Lib.repeatL_length]
theorem bump_len : ∀ (l r : List UInt8), bumpR l = some r → r.length = l.length
  | [], r, h => by simp [bumpR] at h
  | c :: l, r, h => by
    unfold bumpR at h
    split at h
    · cases hq : bumpR l with
      | none => simp [hq] at h
      | some r' => simp [hq] at h; subst h; simp [bump_len l r' hq]
    · simp at h; subst h; simp
theorem fix_len (l : List UInt8) : (fixR l).length = l.length := by cases l <;> rfl
theorem above_len (c : List UInt8) (n : Nat) : (aboveL c n).length ≤ c.length + n + 1 := by
  unfold aboveL
  split
  · have := lowest_len (n - c.length); simp; omega
  · split
    · simp
    · rename_i r hr
      have := bump_len _ _ hr
      simp [fix_len, this]; omega
theorem nextX_small {a : List UInt8} {n : Nat} (hn : n ≤ 100) (ha : okA a) : 0 ≤ (nextX a n).1 ∧ (nextX a n).1 ≤ 1000001 ∧ (nextX a n).2.length ≤ 100000 := by
  have hl := lowest_len n
  by_cases h0 : a = []
  · unfold nextX
    rw [if_pos h0]
    split <;> simp <;> omega
  · obtain ⟨ho, hal, hc, h1, h2⟩ := ha.resolve_left h0
    have hcl : (caps a).length ≤ a.length := by unfold caps; exact (List.dropWhile_suffix _).length_le
    have := above_len (caps a) n
    unfold nextX
    rw [if_neg h0]
    split
    · simp; omega
    · split <;> simp <;> omega
theorem next_pch {S : Std} (hS : LibOk S) (a : List UInt8) (n : Nat) (hn : n ≤ 100) (ha : okA a) : PcH Tryz.prog S 61 [.str a, .int .i64 n] (· = .str (nextL a n)) := by
  refine pch_intro (cth_intro Tryz.func61 rfl Tryz.ntmps61 hB61 (by simp) fun h ρ w hg => go (N := 56) Tryz.ntmps61 15 ?_)
  simp only [go_sem, Nat.reduceAdd, Nat.reduceMul, Nat.reduceSub, Nat.reduceBEq, Nat.reduceLT, Nat.reduceLeDiff, reduceIte, reduceCtorEq, Int.reduceToNat, Int.reduceLE, Int.reduceLT, Int.reduceNe, Int.reduceMul, Int.reduceAdd, Int.reduceSub, Int.reduceDiv, Int.reduceMod, Int.reduceEq, Int.reduceGE, Int.reduceGT, Int.reduceNeg, Int.reduceBEq, Int.reduceBNe, Nat.reduceEqDiff]
  refine amid (κ := Unit) (fun _ => [(5, .ptr 0 1 0 0), (0, .str a), (1, .int .i64 n)]) (fun _ => [.arr 2 [.agg [.int .i64 (nextX a n).1, .str (nextX a n).2]]]) (fun _ => True) ?_ ?_
  · rintro - -
    have hb : 0 ≤ (nextX a n).1 ∧ (nextX a n).1 ≤ 1000001 ∧ (nextX a n).2.length ≤ 100000 := nextX_small hn ha
    have hi := dig3_len (nextX a n).1
    by_cases h9 : (nextX a n).1 > 999
    · have d9 : decide ((nextX a n).1 > 999) = true := by simpa using h9
      refine go (N := 56) Tryz.ntmps61 300 ?_
      simp only [go_sem, Nat.reduceAdd, Nat.reduceMul, Nat.reduceSub, Nat.reduceBEq, Nat.reduceLT, Nat.reduceLeDiff, reduceIte, reduceCtorEq, Int.reduceToNat, Int.reduceLE, Int.reduceLT, Int.reduceNe, Int.reduceMul, Int.reduceAdd, Int.reduceSub, Int.reduceDiv, Int.reduceMod, Int.reduceEq, Int.reduceGE, Int.reduceGT, Int.reduceNeg, Int.reduceBEq, Int.reduceBNe, Nat.reduceEqDiff, d9]
      exact aret [4] rfl ⟨by rw [nextL, if_pos h9]; rfl, rfl⟩
    have d9 : decide ((nextX a n).1 > 999) = false := by simpa using h9
    refine go (N := 56) Tryz.ntmps61 300 ?_
    simp only [go_sem, Nat.reduceAdd, Nat.reduceMul, Nat.reduceSub, Nat.reduceBEq, Nat.reduceLT, Nat.reduceLeDiff, reduceIte, reduceCtorEq, Int.reduceToNat, Int.reduceLE, Int.reduceLT, Int.reduceNe, Int.reduceMul, Int.reduceAdd, Int.reduceSub, Int.reduceDiv, Int.reduceMod, Int.reduceEq, Int.reduceGE, Int.reduceGT, Int.reduceNeg, Int.reduceBEq, Int.reduceBNe, Nat.reduceEqDiff, d9]
    have hit := itoa_pch hS (nextX a n).1 (by omega) (by omega)
    rw [itoa_dig3 hb.1 (by omega)] at hit
    refine adraw [.str (dig3 (nextX a n).1)] mixed (by decide) (N := 56) Tryz.ntmps61 (by decide) 100 ?_
    simp only [go_sem, Nat.reduceAdd, Nat.reduceMul, Nat.reduceSub, Nat.reduceBEq, Nat.reduceLT, Nat.reduceLeDiff, reduceIte, reduceCtorEq, Int.reduceToNat, Int.reduceLE, Int.reduceLT, Int.reduceNe, Int.reduceMul, Int.reduceAdd, Int.reduceSub, Int.reduceDiv, Int.reduceMod, Int.reduceEq, Int.reduceGE, Int.reduceGT, Int.reduceNeg, Int.reduceBEq, Int.reduceBNe, Nat.reduceEqDiff]
    refine ⟨hit.at hg, rfl, by omega, ?_⟩
    refine go (N := 56) Tryz.ntmps61 300 ?_
    simp only [go_sem, Nat.reduceAdd, Nat.reduceMul, Nat.reduceSub, Nat.reduceBEq, Nat.reduceLT, Nat.reduceLeDiff, reduceIte, reduceCtorEq, Int.reduceToNat, Int.reduceLE, Int.reduceLT, Int.reduceNe, Int.reduceMul, Int.reduceAdd, Int.reduceSub, Int.reduceDiv, Int.reduceMod, Int.reduceEq, Int.reduceGE, Int.reduceGT, Int.reduceNeg, Int.reduceBEq, Int.reduceBNe, Nat.reduceEqDiff]
    exact aret [4] rfl ⟨by rw [nextL, if_neg h9]; rfl, rfl⟩
  · intro Q hQ
    by_cases ha0 : a = []
    · subst ha0
      by_cases hn0 : n = 0
      · subst hn0
        refine go (N := 56) Tryz.ntmps61 300 ?_
        simp only [go_sem, Nat.reduceAdd, Nat.reduceMul, Nat.reduceSub, Nat.reduceBEq, Nat.reduceLT, Nat.reduceLeDiff, reduceIte, reduceCtorEq, Int.reduceToNat, Int.reduceLE, Int.reduceLT, Int.reduceNe, Int.reduceMul, Int.reduceAdd, Int.reduceSub, Int.reduceDiv, Int.reduceMod, Int.reduceEq, Int.reduceGE, Int.reduceGT, Int.reduceNeg, Int.reduceBEq, Int.reduceBNe, Nat.reduceEqDiff]
        refine ainv (hQ () trivial) (Shift.weak ?_)
        simp only [wk, go_sem, Nat.reduceAdd, Nat.reduceMul, Nat.reduceSub, Nat.reduceBEq, Nat.reduceLT, Nat.reduceLeDiff, reduceIte, reduceCtorEq, Int.reduceToNat, Int.reduceLE, Int.reduceLT, Int.reduceNe, Int.reduceMul, Int.reduceAdd, Int.reduceSub, Int.reduceDiv, Int.reduceMod, Int.reduceEq, Int.reduceGE, Int.reduceGT, Int.reduceNeg, Int.reduceBEq, Int.reduceBNe, Nat.reduceEqDiff]
      · have d2 : ((n : Int) == 0) = false := by simp; omega
        refine go (N := 56) Tryz.ntmps61 300 ?_
        simp only [go_sem, Nat.reduceAdd, Nat.reduceMul, Nat.reduceSub, Nat.reduceBEq, Nat.reduceLT, Nat.reduceLeDiff, reduceIte, reduceCtorEq, Int.reduceToNat, Int.reduceLE, Int.reduceLT, Int.reduceNe, Int.reduceMul, Int.reduceAdd, Int.reduceSub, Int.reduceDiv, Int.reduceMod, Int.reduceEq, Int.reduceGE, Int.reduceGT, Int.reduceNeg, Int.reduceBEq, Int.reduceBNe, Nat.reduceEqDiff, d2]
        refine pcall1 (lowest_pc n (by omega) (by omega)) rfl (N := 56) Tryz.ntmps61 rfl (go (N := 56) Tryz.ntmps61 300 ?_)
        simp only [go_sem, Nat.reduceAdd, Nat.reduceMul, Nat.reduceSub, Nat.reduceBEq, Nat.reduceLT, Nat.reduceLeDiff, reduceIte, reduceCtorEq, Int.reduceToNat, Int.reduceLE, Int.reduceLT, Int.reduceNe, Int.reduceMul, Int.reduceAdd, Int.reduceSub, Int.reduceDiv, Int.reduceMod, Int.reduceEq, Int.reduceGE, Int.reduceGT, Int.reduceNeg, Int.reduceBEq, Int.reduceBNe, Nat.reduceEqDiff]
        rw [show lowestL n = (nextX [] n).2 by simp [nextX, hn0], show (0 : Int) = (nextX [] n).1 by simp [nextX, hn0]]
        refine ainv (hQ () trivial) (Shift.weak ?_)
        simp only [wk, go_sem, Nat.reduceAdd, Nat.reduceMul, Nat.reduceSub, Nat.reduceBEq, Nat.reduceLT, Nat.reduceLeDiff, reduceIte, reduceCtorEq, Int.reduceToNat, Int.reduceLE, Int.reduceLT, Int.reduceNe, Int.reduceMul, Int.reduceAdd, Int.reduceSub, Int.reduceDiv, Int.reduceMod, Int.reduceEq, Int.reduceGE, Int.reduceGT, Int.reduceNeg, Int.reduceBEq, Int.reduceBNe, Nat.reduceEqDiff]
    · have d1 : (a == []) = false := by simpa using ha0
      obtain ⟨ho, hl, hc, h0, h1⟩ := ha.resolve_left ha0
      have hcl : (caps a).length ≤ a.length := by unfold caps; exact (List.dropWhile_suffix _).length_le
      refine go (N := 56) Tryz.ntmps61 300 ?_
      simp only [go_sem, Nat.reduceAdd, Nat.reduceMul, Nat.reduceSub, Nat.reduceBEq, Nat.reduceLT, Nat.reduceLeDiff, reduceIte, reduceCtorEq, Int.reduceToNat, Int.reduceLE, Int.reduceLT, Int.reduceNe, Int.reduceMul, Int.reduceAdd, Int.reduceSub, Int.reduceDiv, Int.reduceMod, Int.reduceEq, Int.reduceGE, Int.reduceGT, Int.reduceNeg, Int.reduceBEq, Int.reduceBNe, Nat.reduceEqDiff, d1]
      refine pcall1 (parse_pc a (by omega) ho) rfl (N := 56) Tryz.ntmps61 rfl (go (N := 56) Tryz.ntmps61 300 ?_)
      by_cases hn0 : n = 0
      · subst hn0
        simp only [go_sem, Nat.reduceAdd, Nat.reduceMul, Nat.reduceSub, Nat.reduceBEq, Nat.reduceLT, Nat.reduceLeDiff, reduceIte, reduceCtorEq, Int.reduceToNat, Int.reduceLE, Int.reduceLT, Int.reduceNe, Int.reduceMul, Int.reduceAdd, Int.reduceSub, Int.reduceDiv, Int.reduceMod, Int.reduceEq, Int.reduceGE, Int.reduceGT, Int.reduceNeg, Int.reduceBEq, Int.reduceBNe, Nat.reduceEqDiff]
        refine ⟨by omega, by omega, ?_⟩
        rw [show pN a + 1 = (nextX a 0).1 by simp [nextX, ha0], show (AV.str []) = .str (nextX a 0).2 by simp [nextX, ha0]]
        refine ainv (hQ () trivial) (Shift.weak ?_)
        simp only [wk, go_sem, Nat.reduceAdd, Nat.reduceMul, Nat.reduceSub, Nat.reduceBEq, Nat.reduceLT, Nat.reduceLeDiff, reduceIte, reduceCtorEq, Int.reduceToNat, Int.reduceLE, Int.reduceLT, Int.reduceNe, Int.reduceMul, Int.reduceAdd, Int.reduceSub, Int.reduceDiv, Int.reduceMod, Int.reduceEq, Int.reduceGE, Int.reduceGT, Int.reduceNeg, Int.reduceBEq, Int.reduceBNe, Nat.reduceEqDiff]
      have d2 : ((n : Int) == 0) = false := by simp; omega
      have d3 : decide ((n : Int) > 0) = true := by simp; omega
      simp only [go_sem, Nat.reduceAdd, Nat.reduceMul, Nat.reduceSub, Nat.reduceBEq, Nat.reduceLT, Nat.reduceLeDiff, reduceIte, reduceCtorEq, Int.reduceToNat, Int.reduceLE, Int.reduceLT, Int.reduceNe, Int.reduceMul, Int.reduceAdd, Int.reduceSub, Int.reduceDiv, Int.reduceMod, Int.reduceEq, Int.reduceGE, Int.reduceGT, Int.reduceNeg, Int.reduceBEq, Int.reduceBNe, Nat.reduceEqDiff, d3]
      refine pcall1 (above_pc (caps a) n (by omega) (by omega) (by omega) (cap_le hc)) rfl (N := 56) Tryz.ntmps61 rfl (go (N := 56) Tryz.ntmps61 300 ?_)
      by_cases hz : aboveL (caps a) n = []
      · have d4 : (aboveL (caps a) n == []) = true := by simpa using hz
        simp only [go_sem, Nat.reduceAdd, Nat.reduceMul, Nat.reduceSub, Nat.reduceBEq, Nat.reduceLT, Nat.reduceLeDiff, reduceIte, reduceCtorEq, Int.reduceToNat, Int.reduceLE, Int.reduceLT, Int.reduceNe, Int.reduceMul, Int.reduceAdd, Int.reduceSub, Int.reduceDiv, Int.reduceMod, Int.reduceEq, Int.reduceGE, Int.reduceGT, Int.reduceNeg, Int.reduceBEq, Int.reduceBNe, Nat.reduceEqDiff, d2, d3, d4]
        refine ⟨by omega, by omega, ?_⟩
        refine pcall1 (lowest_pc n (by omega) (by omega)) rfl (N := 56) Tryz.ntmps61 rfl (go (N := 56) Tryz.ntmps61 300 ?_)
        simp only [go_sem, Nat.reduceAdd, Nat.reduceMul, Nat.reduceSub, Nat.reduceBEq, Nat.reduceLT, Nat.reduceLeDiff, reduceIte, reduceCtorEq, Int.reduceToNat, Int.reduceLE, Int.reduceLT, Int.reduceNe, Int.reduceMul, Int.reduceAdd, Int.reduceSub, Int.reduceDiv, Int.reduceMod, Int.reduceEq, Int.reduceGE, Int.reduceGT, Int.reduceNeg, Int.reduceBEq, Int.reduceBNe, Nat.reduceEqDiff]
        rw [show pN a + 1 = (nextX a n).1 by simp [nextX, ha0, hn0, hz], show lowestL n = (nextX a n).2 by simp [nextX, ha0, hn0, hz]]
        refine ainv (hQ () trivial) (Shift.weak ?_)
        simp only [wk, go_sem, Nat.reduceAdd, Nat.reduceMul, Nat.reduceSub, Nat.reduceBEq, Nat.reduceLT, Nat.reduceLeDiff, reduceIte, reduceCtorEq, Int.reduceToNat, Int.reduceLE, Int.reduceLT, Int.reduceNe, Int.reduceMul, Int.reduceAdd, Int.reduceSub, Int.reduceDiv, Int.reduceMod, Int.reduceEq, Int.reduceGE, Int.reduceGT, Int.reduceNeg, Int.reduceBEq, Int.reduceBNe, Nat.reduceEqDiff]
      · have d4 : (aboveL (caps a) n == []) = false := by simpa using hz
        simp only [go_sem, Nat.reduceAdd, Nat.reduceMul, Nat.reduceSub, Nat.reduceBEq, Nat.reduceLT, Nat.reduceLeDiff, reduceIte, reduceCtorEq, Int.reduceToNat, Int.reduceLE, Int.reduceLT, Int.reduceNe, Int.reduceMul, Int.reduceAdd, Int.reduceSub, Int.reduceDiv, Int.reduceMod, Int.reduceEq, Int.reduceGE, Int.reduceGT, Int.reduceNeg, Int.reduceBEq, Int.reduceBNe, Nat.reduceEqDiff, d2, d3, d4]
        have e1 : (nextX a n).1 = pN a := by simp [nextX, ha0, hn0, hz]
        have e2 : (nextX a n).2 = aboveL (caps a) n := by simp [nextX, ha0, hn0, hz]
        rw [← e1, ← e2]
        refine ainv (hQ () trivial) (Shift.weak ?_)
        simp only [wk, go_sem, Nat.reduceAdd, Nat.reduceMul, Nat.reduceSub, Nat.reduceBEq, Nat.reduceLT, Nat.reduceLeDiff, reduceIte, reduceCtorEq, Int.reduceToNat, Int.reduceLE, Int.reduceLT, Int.reduceNe, Int.reduceMul, Int.reduceAdd, Int.reduceSub, Int.reduceDiv, Int.reduceMod, Int.reduceEq, Int.reduceGE, Int.reduceGT, Int.reduceNeg, Int.reduceBEq, Int.reduceBNe, Nat.reduceEqDiff]

theorem cap_iff {x : UInt8} : capB x = true ↔ 65 ≤ x.toNat ∧ x.toNat ≤ 90 := by
  simp only [capB, capI, Bool.and_eq_true, decide_eq_true_eq]; omega
theorem rep_cap (n : Nat) : (Lib.repeatL [65] n).all capB = true := by
  induction n with
  | zero => rfl
  | succ n ih => simp only [Lib.repeatL, List.all_append, ih]; rfl
theorem lowest_cap (n : Nat) : (lowestL n).all capB = true := by
  simp only [lowestL, List.all_append, rep_cap]; rfl
theorem bump_cap : ∀ (l r : List UInt8), bumpR l = some r → l.all capB = true → r.all capB = true
  | [], r, h, _ => by simp [bumpR] at h
  | c :: l, r, h, hc => by
    simp only [List.all_cons, Bool.and_eq_true] at hc
    unfold bumpR at h
    split at h
    · cases hq : bumpR l with
      | none => simp [hq] at h
      | some r' =>
        simp [hq] at h; subst h
        simp only [List.all_cons, bump_cap l r' hq hc.2, Bool.and_true]; rfl
    · rename_i h90
      simp at h; subst h
      have h1 := cap_iff.1 hc.1
      have h2 : c.toNat ≠ 90 := fun e => h90 (UInt8.toNat_inj.1 e)
      have h3 : (c + 1).toNat = (c.toNat + 1) % 256 := by rw [UInt8.toNat_add]; rfl
      have h4 : capB (c + 1) = true := cap_iff.2 (by omega)
      simp only [List.all_cons, h4, hc.2, Bool.and_self]
theorem fix_cap (l : List UInt8) (h : l.all capB = true) : (fixR l).all capB = true := by
  cases l with
  | nil => rfl
  | cons c l =>
    simp only [List.all_cons, Bool.and_eq_true] at h
    simp only [fixR, List.all_cons, h.2, Bool.and_true]
    split
    · rfl
    · exact h.1
theorem above_cap {c : List UInt8} (h : c.all capB = true) (n : Nat) : (aboveL c n).all capB = true := by
  unfold aboveL
  split
  · simp only [List.all_append, h, lowest_cap, Bool.and_self]
  · split
    · rfl
    · rename_i r hr
      rw [List.all_reverse]
      refine fix_cap r (bump_cap _ _ hr ?_)
      rw [List.all_reverse]
      rw [List.all_eq_true] at h ⊢
      exact fun x hx => h x (List.mem_of_mem_take hx)
theorem nextX_cap {a : List UInt8} (n : Nat) (h : (caps a).all capB = true) : (nextX a n).2.all capB = true := by
  unfold nextX
  split
  · split
    · rfl
    · exact lowest_cap n
  · split
    · rfl
    · split
      · exact lowest_cap n
      · exact above_cap h n
theorem split_num {d c : List UInt8} (hd : d.all digB = true) (hc : c.all capB = true) : digs (d ++ c) = d ∧ caps (d ++ c) = c := by
  have h := takeWhile_at (p := digB) (s := d ++ c) (k := d.length) (by simp) (by simpa using hd) (by
    cases c with
    | nil => left; simp
    | cons x c =>
      right
      simp only [List.all_cons, Bool.and_eq_true] at hc
      have h1 := cap_iff.1 hc.1
      have : (d ++ x :: c).getD d.length 0 = x := by simp [List.getD]
      rw [this]
      simp only [digB, digI]; simp; omega)
  exact ⟨by rw [digs, h.1]; simp, by rw [caps, h.2]; simp⟩
theorem caps_nil : (caps []).all capB = true := rfl
theorem next_num {a : List UInt8} {n : Nat} (hn : n ≤ 100) (ha : okA a) : nextL a n = [] ∨ (okD (nextL a n) ∧ (nextL a n).length < 100010 ∧ (caps (nextL a n)).all capB = true) := by
  have hb := nextX_small hn ha
  unfold nextL
  split
  · exact .inl rfl
  · have hc : (caps a).all capB = true := by
      rcases ha with rfl | h
      · exact caps_nil
      · exact h.2.2.1
    have hs := split_num (dig3_all hb.1 (by omega)) (nextX_cap n hc)
    have hl := dig3_len (nextX a n).1
    refine .inr ⟨?_, by simp; omega, by rw [hs.2]; exact nextX_cap n hc⟩
    unfold okD; rw [hs.1]; omega

theorem decFrom_lt : ∀ (l : List UInt8) (acc n : Nat), Lib.decFrom acc l = some n → n < (acc + 1) * 10 ^ l.length
  | [], acc, n, h => by simp [Lib.decFrom] at h; simp; omega
  | c :: l, acc, n, h => by
    unfold Lib.decFrom at h
    split at h
    · rename_i d hd
      have ih := decFrom_lt l _ _ h
      have : d ≤ 9 := by
        unfold Lib.digitVal at hd
        split at hd
        · simp at hd; omega
        · cases hd
      refine Nat.lt_of_lt_of_le ih ?_
      rw [List.length_cons, Nat.pow_succ, Nat.mul_comm (10 ^ l.length) 10, ← Nat.mul_assoc]
      exact Nat.mul_le_mul_right _ (by omega)
    · cases h
theorem pN_bound {a : List UInt8} (h : okD a) : 0 ≤ pN a ∧ pN a < ((10 ^ (digs a).length : Nat) : Int) := by
  obtain ⟨n, hn⟩ := decFrom_digs (digs a) 0 (digs_all a)
  have hlt := decFrom_lt _ _ _ hn
  have hat := atoi_digs h
  have h1 := h.1
  have ha := digs_all a
  have key : pN a = (n : Int) := by
    cases hq : digs a with
    | nil => simp [hq] at h1
    | cons b r =>
      rw [hq] at hn ha hat
      simp only [List.all_cons, Bool.and_eq_true, digB, digI, decide_eq_true_eq] at ha
      have b1 : (b == 45) = false := by
        cases hb : b == 45 with
        | false => rfl
        | true => have : b = 45 := by simpa using hb
                  subst this; exact absurd ha.1.1 (by decide)
      have b2 : (b == 43) = false := by
        cases hb : b == 43 with
        | false => rfl
        | true => have : b = 43 := by simpa using hb
                  subst this; exact absurd ha.1.1 (by decide)
      simp [Lib.atoi, b1, b2, Lib.decNat, hn] at hat
      exact hat.symm
  rw [key]
  refine ⟨by omega, ?_⟩
  simp at hlt
  exact_mod_cast hlt
theorem number_okD {a : List UInt8} (h : numberL a = true) : okD a ∧ (digs a).length ≤ 3 ∧ (caps a).length ≤ 5 ∧ (caps a).all capB = true := by
  unfold numberL at h
  simp only [Bool.and_eq_true, Bool.not_eq_true', Bool.or_eq_false_iff, decide_eq_false_iff_not] at h
  obtain ⟨h1, ⟨h2, _⟩, h3⟩ := h
  have hc : (caps a).length ≤ 5 := by omega
  split at h3
  · rename_i hd
    unfold okD
    rw [hd]
    exact ⟨by simp, by simp, hc, h1⟩
  · simp only [Bool.and_eq_true, decide_eq_true_eq] at h3
    exact ⟨⟨h3.1, by omega⟩, h3.2.1, hc, h1⟩
theorem digs_caps (s : List UInt8) : s = digs s ++ caps s := by simp [digs, caps]
theorem number_okA {a : List UInt8} (h : numberL a = true) : okD a ∧ a.length < 1000 ∧ (caps a).all capB = true ∧ 0 ≤ pN a ∧ pN a < 1000000 := by
  obtain ⟨h1, h2, h3, h4⟩ := number_okD h
  have hl := congrArg List.length (digs_caps a)
  simp only [List.length_append] at hl
  have hp := pN_bound h1
  have : 10 ^ (digs a).length ≤ 10 ^ 3 := Nat.pow_le_pow_right (by omega) h2
  exact ⟨h1, by omega, h4, hp.1, by omega⟩
end Go.Proofs.YtpjbbpilgfihbaaGreatDoor
