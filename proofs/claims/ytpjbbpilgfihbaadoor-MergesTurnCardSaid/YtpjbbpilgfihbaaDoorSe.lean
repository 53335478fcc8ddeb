/- Lists of strings: equal, compared, searched. Own work of this seat. -/
import Derived.Test.YtpjbbpilgfihbaaDoorSd
import Derived.Test.YtpjbbpilgfihbaaDoorLcs
namespace Go.Proofs.YtpjbbpilgfihbaaDoor
open Go Go.Av Go.RowKit
attribute [local go_sem ↓] br_true br_false dbr_true dbr_false
attribute [local go_sem] run cont br dbr dx dxc dgrd dyld dres dcall calm fieldPlace? allHas step1 opN grdN resN condN exitN stopN exitIt dOk xop xbin xint xarith xstr xbool xpick xnot xneg xextract xpart xpartOk xindex xfieldF fieldD xnew xbox xalloc xfieldAddr xptrAddIf xindexAddr xloadC xload putCells reElem xstoreB xstore xconv xtext xlen xlen2 xcall xfill xbuild cut rep xbuildSlice xbuildSliceD isRow elemD isU8 ev evs evp Go.Av.put Go.Av.get ofConst yldD yldV args0 cellsOf cond_true cond_false decide_true decide_false decide_eq_true_eq decide_eq_false_iff_not List.getElem?_cons_zero List.getElem?_cons_succ List.getElem?_nil List.getD_cons_zero List.getD_cons_succ List.getD_nil List.set_cons_zero List.set_cons_succ List.length_cons List.length_nil List.cons_append List.nil_append List.append_nil List.all_cons List.all_nil List.map_cons List.map_nil List.take_succ_cons List.take_zero List.drop_succ_cons List.drop_zero Bool.and_true Bool.true_and Bool.and_self Bool.and_false Bool.false_and one Go.Av.frozen beq_self_eq_true true_and and_true forall_const false_implies implies_true and_self Option.map_some Option.map_none Nat.zero_add Nat.add_zero Nat.zero_mul Nat.mul_one Nat.one_mul Int.toNat_zero ne_eq not_false_eq_true not_true_eq_false Bool.true_eq_false Bool.false_eq_true List.toList_toArray inr Go.Av.byteOf isByte decide_eq_decide Bool.not_true Bool.not_false Bool.not_eq_true' Bool.or_true Bool.true_or Bool.or_false Bool.false_or ge_iff_le gt_iff_lt and_assoc Bool.decide_eq_true beq_iff_eq beq_eq_false_iff_ne bne_iff_ne bne_self_eq_false if_true if_false Bool.and_eq_true Bool.or_eq_true Bool.and_eq_false_imp Bool.or_eq_false_iff Bool.not_eq_false' has Option.isSome_some Option.isSome_none Int.toNat_natCast Int.cast_ofNat_Int List.length_append xapp2 xapp xappS xappD xappB notInt srcOf srcB byteAV splice' xcut xcutS xcutF xcutB xcutN xcut0 cutL loOf hiOf evo xmake zelem xmax xcopy2 xcopyS xcopyB xnil xcut3 ixOf xclear2 xclearB List.getElem?_toArray xbin2 xnileq xempty xmkmap xmput xmputB xmputF isKey keyEq mfind xbin3 xeqs xeqop eqFs bothB leafEq
set_option maxRecDepth 100000
set_option linter.unusedSimpArgs false
set_option linter.unusedVariables false

theorem hb9 : hasBody Tryd.prog 9 = true := by kernel_rfl
theorem hb19 : hasBody Tryd.prog 19 = true := by kernel_rfl
theorem hb26 : hasBody Tryd.prog 26 = true := by kernel_rfl
theorem hb35 : hasBody Tryd.prog 35 = true := by kernel_rfl
theorem hb36 : hasBody Tryd.prog 36 = true := by kernel_rfl
theorem hb50 : hasBody Tryd.prog 50 = true := by kernel_rfl

theorem strs_get {l : List (List UInt8)} {i : Nat} (h : i < l.length) : (strs l).getD i .any = .str l[i] := by simp [List.getD, h]
theorem strs_len (l : List (List UInt8)) : (strs l).length = l.length := by simp

theorem large_pc (l : List (List UInt8)) : Pc Tryd.prog 19 [.fz 1 (strs l)] (· = .bool (decide (3000 < l.length))) := by
  refine pc_intro (ct_intro Tryd.func19 rfl Tryd.ntmps19 hb19 (by simp) fun h ρ w => go (N := 6) Tryd.ntmps19 200 ?_)
  simp only [go_sem, Nat.reduceAdd, Nat.reduceMul, Nat.reduceSub, Nat.reduceBEq, Nat.reduceLT, Nat.reduceLeDiff, reduceIte, reduceCtorEq, Int.reduceToNat, Int.reduceLE, Int.reduceLT, Int.reduceNe, Int.reduceMul, Int.reduceAdd, Int.reduceSub, Int.reduceDiv, Int.reduceMod, Int.reduceEq, Int.reduceGE, Int.reduceGT, Int.reduceNeg, Int.reduceBEq, Int.reduceBNe, Nat.reduceEqDiff, strs_len, Tryd.underlying3, Tryd.underlying4, Tryd.underlying26]
  refine aret [2] rfl ⟨?_, rfl⟩
  simp [resV, Av.get]
  omega

theorem take_succ_eq {α : Type} {a b : List α} {i : Nat} (h1 : i < a.length) (h2 : i < b.length) (h : a.take i = b.take i) (he : a[i] = b[i]) : a.take (i + 1) = b.take (i + 1) := by
  rw [List.take_add_one, List.take_add_one, h, List.getElem?_eq_getElem h1, List.getElem?_eq_getElem h2, he]

theorem equal_pc (a b : List (List UInt8)) (ha : a.length ≤ 1000000) : Pc Tryd.prog 9 [.fz 1 (strs a), .fz 1 (strs b)] (· = .bool (decide (a = b))) := by
  refine pc_intro (ct_intro Tryd.func9 rfl Tryd.ntmps9 hb9 (by simp) fun h ρ w => go (N := 26) Tryd.ntmps9 200 ?_)
  simp only [go_sem, Nat.reduceAdd, Nat.reduceMul, Nat.reduceSub, Nat.reduceBEq, Nat.reduceLT, Nat.reduceLeDiff, reduceIte, reduceCtorEq, Int.reduceToNat, Int.reduceLE, Int.reduceLT, Int.reduceNe, Int.reduceMul, Int.reduceAdd, Int.reduceSub, Int.reduceDiv, Int.reduceMod, Int.reduceEq, Int.reduceGE, Int.reduceGT, Int.reduceNeg, Int.reduceBEq, Int.reduceBNe, Nat.reduceEqDiff, strs_len, Tryd.underlying3, Tryd.underlying4, Tryd.underlying9, Tryd.underlying26]
  refine ⟨fun h1 => ?_, fun h1 => ?_⟩
  · refine aret [4] rfl ⟨?_, rfl⟩
    have : ¬ a = b := fun h => by subst h; simp at h1
    simp [resV, Av.get, this]
  · have hlen : a.length = b.length := by have : (a.length : Int) = b.length := by simpa using h1
                                          omega
    refine aloop (ι := Nat) (fun x => a.length - x)
      (fun x => [(13, .int .i64 x), (12, .int .i64 a.length), (0, .fz 1 (strs a)), (1, .fz 1 (strs b))])
      (fun x => []) (fun x => x ≤ a.length ∧ a.take x = b.take x) 0 ⟨by omega, by simp⟩ ?_ ?_
    · refine Shift.weak ?_
      simp only [wk, go_sem, Nat.reduceAdd, Nat.reduceMul, Nat.reduceSub, Nat.reduceBEq, Nat.reduceLT, Nat.reduceLeDiff, reduceIte, reduceCtorEq, Int.reduceToNat, Int.reduceLE, Int.reduceLT, Int.reduceNe, Int.reduceMul, Int.reduceAdd, Int.reduceSub, Int.reduceDiv, Int.reduceMod, Int.reduceEq, Int.reduceGE, Int.reduceGT, Int.reduceNeg, Int.reduceBEq, Int.reduceBNe, Nat.reduceEqDiff]
    · rintro i ⟨g1, g2⟩ J hJ
      refine go (N := 26) Tryd.ntmps9 200 ?_
      by_cases hi : (i : Int) < a.length
      · have hia : i < a.length := by omega
        have hib : i < b.length := by omega
        simp only [go_sem, Nat.reduceAdd, Nat.reduceMul, Nat.reduceSub, Nat.reduceBEq, Nat.reduceLT, Nat.reduceLeDiff, reduceIte, reduceCtorEq, Int.reduceToNat, Int.reduceLE, Int.reduceLT, Int.reduceNe, Int.reduceMul, Int.reduceAdd, Int.reduceSub, Int.reduceDiv, Int.reduceMod, Int.reduceEq, Int.reduceGE, Int.reduceGT, Int.reduceNeg, Int.reduceBEq, Int.reduceBNe, Nat.reduceEqDiff, hi, Tryd.underlying3, Tryd.underlying4, Tryd.underlying9, Tryd.underlying26]
        refine adraw [] mixed (by decide) (N := 26) Tryd.ntmps9 (by decide) 100 ?_
        simp only [go_sem, Nat.reduceAdd, Nat.reduceMul, Nat.reduceSub, Nat.reduceBEq, Nat.reduceLT, Nat.reduceLeDiff, reduceIte, reduceCtorEq, Int.reduceToNat, Int.reduceLE, Int.reduceLT, Int.reduceNe, Int.reduceMul, Int.reduceAdd, Int.reduceSub, Int.reduceDiv, Int.reduceMod, Int.reduceEq, Int.reduceGE, Int.reduceGT, Int.reduceNeg, Int.reduceBEq, Int.reduceBNe, Nat.reduceEqDiff, strs_len, strs_get hia, strs_get hib, ts9, Tryd.underlying3, Tryd.underlying4, Tryd.underlying9, Tryd.underlying26]
        refine ⟨by omega, hi, hia, by omega, by omega, hib, ?_⟩
        refine go (N := 26) Tryd.ntmps9 200 ?_
        by_cases he : a[i] = b[i]
        · have hne : (a[i] != b[i]) = false := by simpa using he
          simp only [go_sem, Nat.reduceAdd, Nat.reduceMul, Nat.reduceSub, Nat.reduceBEq, Nat.reduceLT, Nat.reduceLeDiff, reduceIte, reduceCtorEq, Int.reduceToNat, Int.reduceLE, Int.reduceLT, Int.reduceNe, Int.reduceMul, Int.reduceAdd, Int.reduceSub, Int.reduceDiv, Int.reduceMod, Int.reduceEq, Int.reduceGE, Int.reduceGT, Int.reduceNeg, Int.reduceBEq, Int.reduceBNe, Nat.reduceEqDiff, hne, Tryd.underlying3, Tryd.underlying4, Tryd.underlying9, Tryd.underlying26]
          have e1 : (i : Int) + 1 = ((i + 1 : Nat) : Int) := by omega
          refine ⟨by omega, by omega, ?_⟩
          rw [e1]
          refine ainv (hJ (i + 1) ⟨by omega, take_succ_eq hia hib g2 he⟩ (by omega)) (Shift.weak ?_)
          simp only [wk, go_sem, Nat.reduceAdd, Nat.reduceMul, Nat.reduceSub, Nat.reduceBEq, Nat.reduceLT, Nat.reduceLeDiff, reduceIte, reduceCtorEq, Int.reduceToNat, Int.reduceLE, Int.reduceLT, Int.reduceNe, Int.reduceMul, Int.reduceAdd, Int.reduceSub, Int.reduceDiv, Int.reduceMod, Int.reduceEq, Int.reduceGE, Int.reduceGT, Int.reduceNeg, Int.reduceBEq, Int.reduceBNe, Nat.reduceEqDiff]
        · have hne : (a[i] != b[i]) = true := by simpa using he
          simp only [go_sem, Nat.reduceAdd, Nat.reduceMul, Nat.reduceSub, Nat.reduceBEq, Nat.reduceLT, Nat.reduceLeDiff, reduceIte, reduceCtorEq, Int.reduceToNat, Int.reduceLE, Int.reduceLT, Int.reduceNe, Int.reduceMul, Int.reduceAdd, Int.reduceSub, Int.reduceDiv, Int.reduceMod, Int.reduceEq, Int.reduceGE, Int.reduceGT, Int.reduceNeg, Int.reduceBEq, Int.reduceBNe, Nat.reduceEqDiff, hne, Tryd.underlying3, Tryd.underlying4, Tryd.underlying9, Tryd.underlying26]
          refine aret [4] rfl ⟨?_, rfl⟩
          have : ¬ a = b := fun h => he (by subst h; rfl)
          simp [resV, Av.get, this]
      · simp only [go_sem, Nat.reduceAdd, Nat.reduceMul, Nat.reduceSub, Nat.reduceBEq, Nat.reduceLT, Nat.reduceLeDiff, reduceIte, reduceCtorEq, Int.reduceToNat, Int.reduceLE, Int.reduceLT, Int.reduceNe, Int.reduceMul, Int.reduceAdd, Int.reduceSub, Int.reduceDiv, Int.reduceMod, Int.reduceEq, Int.reduceGE, Int.reduceGT, Int.reduceNeg, Int.reduceBEq, Int.reduceBNe, Nat.reduceEqDiff, hi, Tryd.underlying3, Tryd.underlying4, Tryd.underlying9, Tryd.underlying26]
        refine aret [4] rfl ⟨?_, rfl⟩
        have : a = b := by
          have e : i = a.length := by omega
          subst e
          rw [List.take_length] at g2
          rw [g2, List.take_of_length_le (by omega)]
        simp [resV, Av.get, this]

/-- slices.Index at []string -/
def idxI (x : List UInt8) (l : List (List UInt8)) : Int := match idx x l with
  | some k => k
  | none => -1

theorem idx_step {x : List UInt8} : ∀ {l : List (List UInt8)} {i : Nat} (hi : i < l.length), (∀ j, (hj : j < i) → l[j]'(by omega) ≠ x) → l[i] = x → idx x l = some i
  | y :: l, 0, hi, h, he => by simp at he; simp [idx, he]
  | y :: l, i + 1, hi, h, he => by
    have h0 := h 0 (by omega)
    simp at h0
    have := idx_step (l := l) (i := i) (by simpa using hi) (fun j hj => by have := h (j + 1) (by omega); simpa using this) (by simpa using he)
    simp [idx, h0, this]
theorem idx_no {x : List UInt8} : ∀ {l : List (List UInt8)}, (∀ j, (hj : j < l.length) → l[j] ≠ x) → idx x l = none
  | [], _ => rfl
  | y :: l, h => by
    have h0 := h 0 (by simp)
    simp at h0
    have := idx_no (l := l) (fun j hj => by have := h (j + 1) (by simpa using hj); simpa using this)
    simp [idx, h0, this]

theorem index_pc (l : List (List UInt8)) (x : List UInt8) (hl : l.length ≤ 1000000) : Pc Tryd.prog 36 [.fz 1 (strs l), .str x] (· = .int .i64 (idxI x l)) := by
  refine pc_intro (ct_intro Tryd.func36 rfl Tryd.ntmps36 hb36 (by simp) fun h ρ w => go (N := 19) Tryd.ntmps36 200 ?_)
  simp only [go_sem, Nat.reduceAdd, Nat.reduceMul, Nat.reduceSub, Nat.reduceBEq, Nat.reduceLT, Nat.reduceLeDiff, reduceIte, reduceCtorEq, Int.reduceToNat, Int.reduceLE, Int.reduceLT, Int.reduceNe, Int.reduceMul, Int.reduceAdd, Int.reduceSub, Int.reduceDiv, Int.reduceMod, Int.reduceEq, Int.reduceGE, Int.reduceGT, Int.reduceNeg, Int.reduceBEq, Int.reduceBNe, Nat.reduceEqDiff, strs_len, Tryd.underlying3, Tryd.underlying4, Tryd.underlying9, Tryd.underlying26]
  refine aloop (ι := Nat) (fun i => l.length - i)
    (fun i => [(8, .int .i64 i), (7, .int .i64 l.length), (0, .fz 1 (strs l)), (1, .str x)])
    (fun _ => []) (fun i => i ≤ l.length ∧ ∀ j, j < i → ∀ hj : j < l.length, l[j] ≠ x) 0 ⟨by omega, by simp⟩ ?_ ?_
  · refine Shift.weak ?_
    simp only [wk, go_sem, Nat.reduceAdd, Nat.reduceMul, Nat.reduceSub, Nat.reduceBEq, Nat.reduceLT, Nat.reduceLeDiff, reduceIte, reduceCtorEq, Int.reduceToNat, Int.reduceLE, Int.reduceLT, Int.reduceNe, Int.reduceMul, Int.reduceAdd, Int.reduceSub, Int.reduceDiv, Int.reduceMod, Int.reduceEq, Int.reduceGE, Int.reduceGT, Int.reduceNeg, Int.reduceBEq, Int.reduceBNe, Nat.reduceEqDiff]
  · rintro i ⟨g1, g2⟩ J hJ
    refine go (N := 19) Tryd.ntmps36 200 ?_
    by_cases hi : (i : Int) < l.length
    · have hia : i < l.length := by omega
      by_cases he : l[i] = x
      · have hne : (x == l[i]) = true := by simpa using he.symm
        simp only [go_sem, Nat.reduceAdd, Nat.reduceMul, Nat.reduceSub, Nat.reduceBEq, Nat.reduceLT, Nat.reduceLeDiff, reduceIte, reduceCtorEq, Int.reduceToNat, Int.reduceLE, Int.reduceLT, Int.reduceNe, Int.reduceMul, Int.reduceAdd, Int.reduceSub, Int.reduceDiv, Int.reduceMod, Int.reduceEq, Int.reduceGE, Int.reduceGT, Int.reduceNeg, Int.reduceBEq, Int.reduceBNe, Nat.reduceEqDiff, hi, strs_len, strs_get hia, hne, ts9, Tryd.underlying3, Tryd.underlying4, Tryd.underlying9, Tryd.underlying26]
        refine ⟨by omega, hia, ?_⟩
        refine aret [4] rfl ⟨?_, rfl⟩
        simp [resV, Av.get, idxI, idx_step hia (fun j hj => g2 j hj (by omega)) he]
      · have hne : (x == l[i]) = false := by simpa using fun h => he h.symm
        simp only [go_sem, Nat.reduceAdd, Nat.reduceMul, Nat.reduceSub, Nat.reduceBEq, Nat.reduceLT, Nat.reduceLeDiff, reduceIte, reduceCtorEq, Int.reduceToNat, Int.reduceLE, Int.reduceLT, Int.reduceNe, Int.reduceMul, Int.reduceAdd, Int.reduceSub, Int.reduceDiv, Int.reduceMod, Int.reduceEq, Int.reduceGE, Int.reduceGT, Int.reduceNeg, Int.reduceBEq, Int.reduceBNe, Nat.reduceEqDiff, hi, strs_len, strs_get hia, hne, ts9, Tryd.underlying3, Tryd.underlying4, Tryd.underlying9, Tryd.underlying26]
        have e1 : (i : Int) + 1 = ((i + 1 : Nat) : Int) := by omega
        refine ⟨by omega, hia, by omega, by omega, ?_⟩
        rw [e1]
        refine ainv (hJ (i + 1) ⟨by omega, fun j hj hjl => ?_⟩ (by omega)) (Shift.weak ?_)
        · rcases Nat.lt_or_ge j i with h | h
          · exact g2 j h hjl
          · have : j = i := by omega
            subst this; exact he
        · simp only [wk, go_sem, Nat.reduceAdd, Nat.reduceMul, Nat.reduceSub, Nat.reduceBEq, Nat.reduceLT, Nat.reduceLeDiff, reduceIte, reduceCtorEq, Int.reduceToNat, Int.reduceLE, Int.reduceLT, Int.reduceNe, Int.reduceMul, Int.reduceAdd, Int.reduceSub, Int.reduceDiv, Int.reduceMod, Int.reduceEq, Int.reduceGE, Int.reduceGT, Int.reduceNeg, Int.reduceBEq, Int.reduceBNe, Nat.reduceEqDiff]
    · simp only [go_sem, Nat.reduceAdd, Nat.reduceMul, Nat.reduceSub, Nat.reduceBEq, Nat.reduceLT, Nat.reduceLeDiff, reduceIte, reduceCtorEq, Int.reduceToNat, Int.reduceLE, Int.reduceLT, Int.reduceNe, Int.reduceMul, Int.reduceAdd, Int.reduceSub, Int.reduceDiv, Int.reduceMod, Int.reduceEq, Int.reduceGE, Int.reduceGT, Int.reduceNeg, Int.reduceBEq, Int.reduceBNe, Nat.reduceEqDiff, hi, Tryd.underlying3, Tryd.underlying4, Tryd.underlying9, Tryd.underlying26]
      refine aret [4] rfl ⟨?_, rfl⟩
      simp [resV, Av.get, idxI, idx_no (fun j hj => g2 j (by omega) hj)]

theorem isNaN_pc (x : List UInt8) : Pc Tryd.prog 50 [.str x] (· = .bool false) := by
  refine pc_intro (ct_intro Tryd.func50 rfl Tryd.ntmps50 hb50 (by simp) fun h ρ w => go (N := 6) Tryd.ntmps50 200 ?_)
  simp only [go_sem, Nat.reduceAdd, Nat.reduceMul, Nat.reduceSub, Nat.reduceBEq, Nat.reduceLT, Nat.reduceLeDiff, reduceIte, reduceCtorEq, Int.reduceToNat, Int.reduceLE, Int.reduceLT, Int.reduceNe, Int.reduceMul, Int.reduceAdd, Int.reduceSub, Int.reduceDiv, Int.reduceMod, Int.reduceEq, Int.reduceGE, Int.reduceGT, Int.reduceNeg, Int.reduceBEq, Int.reduceBNe, Nat.reduceEqDiff, Tryd.underlying3, Tryd.underlying4, Tryd.underlying9, Tryd.underlying26]
  refine aret [2] rfl ⟨?_, rfl⟩
  simp [resV, Av.get]

def cmpB (x y : List UInt8) : Int := if bytesLess x y = true then -1 else if x = y then 0 else 1

theorem cmp_pc (x y : List UInt8) : Pc Tryd.prog 35 [.str x, .str y] (· = .int .i64 (cmpB x y)) := by
  refine pc_intro (ct_intro Tryd.func35 rfl Tryd.ntmps35 hb35 (by simp) fun h ρ w => go (N := 20) Tryd.ntmps35 200 ?_)
  simp only [go_sem, Nat.reduceAdd, Nat.reduceMul, Nat.reduceSub, Nat.reduceBEq, Nat.reduceLT, Nat.reduceLeDiff, reduceIte, reduceCtorEq, Int.reduceToNat, Int.reduceLE, Int.reduceLT, Int.reduceNe, Int.reduceMul, Int.reduceAdd, Int.reduceSub, Int.reduceDiv, Int.reduceMod, Int.reduceEq, Int.reduceGE, Int.reduceGT, Int.reduceNeg, Int.reduceBEq, Int.reduceBNe, Nat.reduceEqDiff, Tryd.underlying3, Tryd.underlying4, Tryd.underlying9, Tryd.underlying26]
  refine pcall1 (isNaN_pc x) rfl (N := 20) Tryd.ntmps35 rfl (go (N := 20) Tryd.ntmps35 200 ?_)
  simp only [go_sem, Nat.reduceAdd, Nat.reduceMul, Nat.reduceSub, Nat.reduceBEq, Nat.reduceLT, Nat.reduceLeDiff, reduceIte, reduceCtorEq, Int.reduceToNat, Int.reduceLE, Int.reduceLT, Int.reduceNe, Int.reduceMul, Int.reduceAdd, Int.reduceSub, Int.reduceDiv, Int.reduceMod, Int.reduceEq, Int.reduceGE, Int.reduceGT, Int.reduceNeg, Int.reduceBEq, Int.reduceBNe, Nat.reduceEqDiff, Tryd.underlying3, Tryd.underlying4, Tryd.underlying9, Tryd.underlying26]
  refine pcall1 (isNaN_pc y) rfl (N := 20) Tryd.ntmps35 rfl (go (N := 20) Tryd.ntmps35 200 ?_)
  simp only [go_sem, Nat.reduceAdd, Nat.reduceMul, Nat.reduceSub, Nat.reduceBEq, Nat.reduceLT, Nat.reduceLeDiff, reduceIte, reduceCtorEq, Int.reduceToNat, Int.reduceLE, Int.reduceLT, Int.reduceNe, Int.reduceMul, Int.reduceAdd, Int.reduceSub, Int.reduceDiv, Int.reduceMod, Int.reduceEq, Int.reduceGE, Int.reduceGT, Int.reduceNeg, Int.reduceBEq, Int.reduceBNe, Nat.reduceEqDiff, Tryd.underlying3, Tryd.underlying4, Tryd.underlying9, Tryd.underlying26]
  refine ⟨fun h1 => ?_, fun h1 => ⟨fun h2 => ?_, fun h2 => ?_⟩⟩
  · refine aret [4] rfl ⟨?_, rfl⟩
    simp [resV, Av.get, cmpB, h1]
  · refine aret [4] rfl ⟨?_, rfl⟩
    simp [resV, Av.get, cmpB, h2]
  · refine aret [4] rfl ⟨?_, rfl⟩
    have : x = y := by rcases h2 with h | h; rw [h1] at h; cases h; exact h
    simp [resV, Av.get, cmpB, h1, this]
    subst this
    simp [h1]

def cmpL : List (List UInt8) → List (List UInt8) → Int
  | [], [] => 0
  | [], _ :: _ => -1
  | _ :: _, [] => 1
  | x :: a, y :: b => if cmpB x y = 0 then cmpL a b else cmpB x y

theorem drop_cons {α : Type} {l : List α} {i : Nat} (h : i < l.length) : l.drop i = l[i] :: l.drop (i + 1) := List.drop_eq_getElem_cons h

theorem compare_pc (a b : List (List UInt8)) (ha : a.length ≤ 1000000) (hb : b.length ≤ 1000000) : Pc Tryd.prog 26 [.fz 1 (strs a), .fz 1 (strs b)] (· = .int .i64 (cmpL a b)) := by
  refine pc_intro (ct_intro Tryd.func26 rfl Tryd.ntmps26 hb26 (by simp) fun h ρ w => go (N := 36) Tryd.ntmps26 200 ?_)
  simp only [go_sem, Nat.reduceAdd, Nat.reduceMul, Nat.reduceSub, Nat.reduceBEq, Nat.reduceLT, Nat.reduceLeDiff, reduceIte, reduceCtorEq, Int.reduceToNat, Int.reduceLE, Int.reduceLT, Int.reduceNe, Int.reduceMul, Int.reduceAdd, Int.reduceSub, Int.reduceDiv, Int.reduceMod, Int.reduceEq, Int.reduceGE, Int.reduceGT, Int.reduceNeg, Int.reduceBEq, Int.reduceBNe, Nat.reduceEqDiff, strs_len, Tryd.underlying3, Tryd.underlying4, Tryd.underlying9, Tryd.underlying26]
  refine aloop (ι := Nat) (fun i => a.length - i)
    (fun i => [(11, .int .i64 i), (10, .int .i64 a.length), (9, .fz 1 (strs a)), (0, .fz 1 (strs a)), (1, .fz 1 (strs b))])
    (fun _ => []) (fun i => i ≤ a.length ∧ i ≤ b.length ∧ cmpL (a.drop i) (b.drop i) = cmpL a b) 0 ⟨by omega, by omega, rfl⟩ ?_ ?_
  · refine Shift.weak ?_
    simp only [wk, go_sem, Nat.reduceAdd, Nat.reduceMul, Nat.reduceSub, Nat.reduceBEq, Nat.reduceLT, Nat.reduceLeDiff, reduceIte, reduceCtorEq, Int.reduceToNat, Int.reduceLE, Int.reduceLT, Int.reduceNe, Int.reduceMul, Int.reduceAdd, Int.reduceSub, Int.reduceDiv, Int.reduceMod, Int.reduceEq, Int.reduceGE, Int.reduceGT, Int.reduceNeg, Int.reduceBEq, Int.reduceBNe, Nat.reduceEqDiff]
  · rintro i ⟨g1, g2, g3⟩ J hJ
    refine go (N := 36) Tryd.ntmps26 200 ?_
    by_cases hi : (i : Int) < a.length
    · have hia : i < a.length := by omega
      rw [drop_cons hia] at g3
      by_cases hib : i < b.length
      · have hge : decide ((i : Int) ≥ b.length) = false := by simp; omega
        have hlt : (i : Int) < b.length := by omega
        rw [drop_cons hib] at g3
        simp only [go_sem, Nat.reduceAdd, Nat.reduceMul, Nat.reduceSub, Nat.reduceBEq, Nat.reduceLT, Nat.reduceLeDiff, reduceIte, reduceCtorEq, Int.reduceToNat, Int.reduceLE, Int.reduceLT, Int.reduceNe, Int.reduceMul, Int.reduceAdd, Int.reduceSub, Int.reduceDiv, Int.reduceMod, Int.reduceEq, Int.reduceGE, Int.reduceGT, Int.reduceNeg, Int.reduceBEq, Int.reduceBNe, Nat.reduceEqDiff, hi, hge, hlt, strs_len, strs_get hia, strs_get hib, ts9, Tryd.underlying3, Tryd.underlying4, Tryd.underlying9, Tryd.underlying26]
        refine ⟨by omega, hia, by omega, hib, ?_⟩
        refine pcall1 (cmp_pc _ _) rfl (N := 36) Tryd.ntmps26 rfl (go (N := 36) Tryd.ntmps26 200 ?_)
        by_cases hc : cmpB a[i] b[i] = 0
        · have hc' : (cmpB a[i] b[i] != 0) = false := by simpa using hc
          have e1 : (i : Int) + 1 = ((i + 1 : Nat) : Int) := by omega
          simp only [go_sem, Nat.reduceAdd, Nat.reduceMul, Nat.reduceSub, Nat.reduceBEq, Nat.reduceLT, Nat.reduceLeDiff, reduceIte, reduceCtorEq, Int.reduceToNat, Int.reduceLE, Int.reduceLT, Int.reduceNe, Int.reduceMul, Int.reduceAdd, Int.reduceSub, Int.reduceDiv, Int.reduceMod, Int.reduceEq, Int.reduceGE, Int.reduceGT, Int.reduceNeg, Int.reduceBEq, Int.reduceBNe, Nat.reduceEqDiff, hc', Tryd.underlying3, Tryd.underlying4, Tryd.underlying9, Tryd.underlying26]
          refine ⟨by omega, by omega, ?_⟩
          rw [e1]
          refine ainv (hJ (i + 1) ⟨by omega, by omega, ?_⟩ (by omega)) (Shift.weak ?_)
          · rw [← g3, cmpL, if_pos hc]
          · simp only [wk, go_sem, Nat.reduceAdd, Nat.reduceMul, Nat.reduceSub, Nat.reduceBEq, Nat.reduceLT, Nat.reduceLeDiff, reduceIte, reduceCtorEq, Int.reduceToNat, Int.reduceLE, Int.reduceLT, Int.reduceNe, Int.reduceMul, Int.reduceAdd, Int.reduceSub, Int.reduceDiv, Int.reduceMod, Int.reduceEq, Int.reduceGE, Int.reduceGT, Int.reduceNeg, Int.reduceBEq, Int.reduceBNe, Nat.reduceEqDiff]
        · have hc' : (cmpB a[i] b[i] != 0) = true := by simpa using hc
          simp only [go_sem, Nat.reduceAdd, Nat.reduceMul, Nat.reduceSub, Nat.reduceBEq, Nat.reduceLT, Nat.reduceLeDiff, reduceIte, reduceCtorEq, Int.reduceToNat, Int.reduceLE, Int.reduceLT, Int.reduceNe, Int.reduceMul, Int.reduceAdd, Int.reduceSub, Int.reduceDiv, Int.reduceMod, Int.reduceEq, Int.reduceGE, Int.reduceGT, Int.reduceNeg, Int.reduceBEq, Int.reduceBNe, Nat.reduceEqDiff, hc', Tryd.underlying3, Tryd.underlying4, Tryd.underlying9, Tryd.underlying26]
          refine aret [4] rfl ⟨?_, rfl⟩
          rw [cmpL, if_neg hc] at g3
          simp [resV, Av.get, g3]
      · have hge : decide ((i : Int) ≥ b.length) = true := by simp; omega
        simp only [go_sem, Nat.reduceAdd, Nat.reduceMul, Nat.reduceSub, Nat.reduceBEq, Nat.reduceLT, Nat.reduceLeDiff, reduceIte, reduceCtorEq, Int.reduceToNat, Int.reduceLE, Int.reduceLT, Int.reduceNe, Int.reduceMul, Int.reduceAdd, Int.reduceSub, Int.reduceDiv, Int.reduceMod, Int.reduceEq, Int.reduceGE, Int.reduceGT, Int.reduceNeg, Int.reduceBEq, Int.reduceBNe, Nat.reduceEqDiff, hi, hge, strs_len, strs_get hia, ts9, Tryd.underlying3, Tryd.underlying4, Tryd.underlying9, Tryd.underlying26]
        refine ⟨by omega, hia, ?_⟩
        refine aret [4] rfl ⟨?_, rfl⟩
        rw [List.drop_eq_nil_of_le (by omega : b.length ≤ i), cmpL] at g3
        simp [resV, Av.get, g3]
    · have e : i = a.length := by omega
      subst e
      simp only [List.drop_length] at g3
      simp only [go_sem, Nat.reduceAdd, Nat.reduceMul, Nat.reduceSub, Nat.reduceBEq, Nat.reduceLT, Nat.reduceLeDiff, reduceIte, reduceCtorEq, Int.reduceToNat, Int.reduceLE, Int.reduceLT, Int.reduceNe, Int.reduceMul, Int.reduceAdd, Int.reduceSub, Int.reduceDiv, Int.reduceMod, Int.reduceEq, Int.reduceGE, Int.reduceGT, Int.reduceNeg, Int.reduceBEq, Int.reduceBNe, Nat.reduceEqDiff, hi, strs_len, ts9, Tryd.underlying3, Tryd.underlying4, Tryd.underlying9, Tryd.underlying26]
      refine ⟨fun h1 => ?_, fun h1 => ?_⟩
      · refine aret [4] rfl ⟨?_, rfl⟩
        have hlb : a.length < b.length := by omega
        rw [drop_cons hlb, cmpL] at g3
        simp [resV, Av.get, ← g3]
      · refine aret [4] rfl ⟨?_, rfl⟩
        rw [List.drop_eq_nil_of_le (by omega : b.length ≤ a.length), cmpL] at g3
        simp [resV, Av.get, ← g3]
end Go.Proofs.YtpjbbpilgfihbaaDoor
