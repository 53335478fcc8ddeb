/- What strings are: plain, proper, sets. Own work of this seat. -/
import Derived.Test.YtpjbbpilgfihbaaDoorBc
import Derived.Test.YtpjbbpilgfihbaaDoorSe
set_option maxRecDepth 100000
set_option linter.unusedSimpArgs false
set_option linter.unusedVariables false
namespace Go.Proofs.YtpjbbpilgfihbaaDoor
open Go Go.Av Go.RowKit
attribute [local go_sem ↓] br_true br_false dbr_true dbr_false
attribute [local go_sem] run cont br dbr dx dxc dgrd dyld dres dcall calm fieldPlace? allHas step1 opN grdN resN condN exitN stopN exitIt dOk xop xbin xint xarith xstr xbool xpick xnot xneg xextract xpart xpartOk xindex xfieldF fieldD xnew xbox xalloc xfieldAddr xptrAddIf xindexAddr xloadC xload putCells reElem xstoreB xstore xconv xtext xlen xlen2 xcall xfill xbuild cut rep xbuildSlice xbuildSliceD isRow elemD isU8 ev evs evp Go.Av.put Go.Av.get ofConst yldD yldV args0 cellsOf cond_true cond_false decide_true decide_false decide_eq_true_eq decide_eq_false_iff_not List.getElem?_cons_zero List.getElem?_cons_succ List.getElem?_nil List.getD_cons_zero List.getD_cons_succ List.getD_nil List.set_cons_zero List.set_cons_succ List.length_cons List.length_nil List.cons_append List.nil_append List.append_nil List.all_cons List.all_nil List.map_cons List.map_nil List.take_succ_cons List.take_zero List.drop_succ_cons List.drop_zero Bool.and_true Bool.true_and Bool.and_self Bool.and_false Bool.false_and one Go.Av.frozen beq_self_eq_true true_and and_true forall_const false_implies implies_true and_self Option.map_some Option.map_none Nat.zero_add Nat.add_zero Nat.zero_mul Nat.mul_one Nat.one_mul Int.toNat_zero ne_eq not_false_eq_true not_true_eq_false Bool.true_eq_false Bool.false_eq_true List.toList_toArray inr Go.Av.byteOf isByte decide_eq_decide Bool.not_true Bool.not_false Bool.not_eq_true' Bool.or_true Bool.true_or Bool.or_false Bool.false_or ge_iff_le gt_iff_lt and_assoc Bool.decide_eq_true beq_iff_eq beq_eq_false_iff_ne bne_iff_ne bne_self_eq_false if_true if_false Bool.and_eq_true Bool.or_eq_true Bool.and_eq_false_imp Bool.or_eq_false_iff Bool.not_eq_false' has Option.isSome_some Option.isSome_none Int.toNat_natCast Int.cast_ofNat_Int List.length_append xapp2 xapp xappS xappD xappB notInt srcOf srcB byteAV splice' xcut xcutS xcutF xcutB xcutN xcut0 cutL loOf hiOf evo xmake zelem xmax xcopy2 xcopyS xcopyB xnil xcut3 ixOf xclear2 xclearB List.getElem?_toArray xbin2 xnileq xempty xmkmap xmput xmputB xmputF isKey keyEq mfind xbin3 xeqs xeqop eqFs bothB leafEq

theorem b62 : hasBody Tryd.prog 62 = true := by kernel_rfl
theorem b63 : hasBody Tryd.prog 63 = true := by kernel_rfl
theorem b41 : hasBody Tryd.prog 41 = true := by kernel_rfl
theorem b81 : hasBody Tryd.prog 81 = true := by kernel_rfl
theorem b64 : hasBody Tryd.prog 64 = true := by kernel_rfl

def digI (n : Int) : Bool := decide (n ≥ 48) && decide (n ≤ 57)
def capI (n : Int) : Bool := decide (n ≥ 65) && decide (n ≤ 90)

theorem isDigit_pc (n : Int) : Pc Tryd.prog 62 [.int .u8 n] (· = .bool (digI n)) := by
  refine pc_intro (ct_intro Tryd.func62 rfl Tryd.ntmps62 b62 (by simp) fun h ρ w => go (N := 9) Tryd.ntmps62 200 ?_)
  by_cases h1 : n ≥ 48
  · have d1 : decide (n ≥ 48) = true := by simpa using h1
    simp only [go_sem, Nat.reduceAdd, Nat.reduceMul, Nat.reduceSub, Nat.reduceBEq, Nat.reduceLT, Nat.reduceLeDiff, reduceIte, reduceCtorEq, Int.reduceToNat, Int.reduceLE, Int.reduceLT, Int.reduceNe, Int.reduceMul, Int.reduceAdd, Int.reduceSub, Int.reduceDiv, Int.reduceMod, Int.reduceEq, Int.reduceGE, Int.reduceGT, Int.reduceNeg, Int.reduceBEq, Int.reduceBNe, Nat.reduceEqDiff, d1, Tryd.underlying4, Tryd.underlying5]
    exact aret [2] rfl ⟨by simp [resV, Av.get, digI, h1], rfl⟩
  · have d1 : decide (n ≥ 48) = false := by simpa using h1
    simp only [go_sem, Nat.reduceAdd, Nat.reduceMul, Nat.reduceSub, Nat.reduceBEq, Nat.reduceLT, Nat.reduceLeDiff, reduceIte, reduceCtorEq, Int.reduceToNat, Int.reduceLE, Int.reduceLT, Int.reduceNe, Int.reduceMul, Int.reduceAdd, Int.reduceSub, Int.reduceDiv, Int.reduceMod, Int.reduceEq, Int.reduceGE, Int.reduceGT, Int.reduceNeg, Int.reduceBEq, Int.reduceBNe, Nat.reduceEqDiff, d1, Tryd.underlying4, Tryd.underlying5]
    exact aret [2] rfl ⟨by simp [resV, Av.get, digI, h1], rfl⟩

theorem isCapital_pc (n : Int) : Pc Tryd.prog 63 [.int .u8 n] (· = .bool (capI n)) := by
  refine pc_intro (ct_intro Tryd.func63 rfl Tryd.ntmps63 b63 (by simp) fun h ρ w => go (N := 9) Tryd.ntmps63 200 ?_)
  by_cases h1 : n ≥ 65
  · have d1 : decide (n ≥ 65) = true := by simpa using h1
    simp only [go_sem, Nat.reduceAdd, Nat.reduceMul, Nat.reduceSub, Nat.reduceBEq, Nat.reduceLT, Nat.reduceLeDiff, reduceIte, reduceCtorEq, Int.reduceToNat, Int.reduceLE, Int.reduceLT, Int.reduceNe, Int.reduceMul, Int.reduceAdd, Int.reduceSub, Int.reduceDiv, Int.reduceMod, Int.reduceEq, Int.reduceGE, Int.reduceGT, Int.reduceNeg, Int.reduceBEq, Int.reduceBNe, Nat.reduceEqDiff, d1, Tryd.underlying4, Tryd.underlying5]
    exact aret [2] rfl ⟨by simp [resV, Av.get, capI, h1], rfl⟩
  · have d1 : decide (n ≥ 65) = false := by simpa using h1
    simp only [go_sem, Nat.reduceAdd, Nat.reduceMul, Nat.reduceSub, Nat.reduceBEq, Nat.reduceLT, Nat.reduceLeDiff, reduceIte, reduceCtorEq, Int.reduceToNat, Int.reduceLE, Int.reduceLT, Int.reduceNe, Int.reduceMul, Int.reduceAdd, Int.reduceSub, Int.reduceDiv, Int.reduceMod, Int.reduceEq, Int.reduceGE, Int.reduceGT, Int.reduceNeg, Int.reduceBEq, Int.reduceBNe, Nat.reduceEqDiff, d1, Tryd.underlying4, Tryd.underlying5]
    exact aret [2] rfl ⟨by simp [resV, Av.get, capI, h1], rfl⟩

def okB (c : UInt8) : Bool := !(decide ((c.toNat : Int) < 32)) && !(decide ((c.toNat : Int) > 126))
def plainL (s : List UInt8) : Bool := s.all okB && (!Lib.hasPrefix s [32] && (!Lib.hasSuffix s [32] && !Lib.contains s [32, 32]))

theorem all_take_succ {α : Type} {p : α → Bool} {s : List α} {i : Nat} (h : i < s.length) (h1 : (s.take i).all p = true) (h2 : p s[i] = true) : (s.take (i + 1)).all p = true := by
  rw [List.take_succ_eq_append_getElem h, List.all_append, h1]
  simpa using h2
theorem all_false_at {α : Type} {p : α → Bool} {s : List α} {i : Nat} (h : i < s.length) (h2 : p s[i] = false) : s.all p = false := by
  rw [List.all_eq_false]
  exact ⟨s[i], List.getElem_mem h, by simp [h2]⟩

theorem plain_pch (m : Int) (s : List UInt8) (hs : s.length < 1000000) : PcH Tryd.prog (gm m) 41 [.str s] (· = .bool (plainL s)) := by
  refine pch_intro (cth_intro Tryd.func41 rfl Tryd.ntmps41 b41 (by simp) fun h ρ w hg => go (N := 33) Tryd.ntmps41 200 ?_)
  simp only [go_sem, Nat.reduceAdd, Nat.reduceMul, Nat.reduceSub, Nat.reduceBEq, Nat.reduceLT, Nat.reduceLeDiff, reduceIte, reduceCtorEq, Int.reduceToNat, Int.reduceLE, Int.reduceLT, Int.reduceNe, Int.reduceMul, Int.reduceAdd, Int.reduceSub, Int.reduceDiv, Int.reduceMod, Int.reduceEq, Int.reduceGE, Int.reduceGT, Int.reduceNeg, Int.reduceBEq, Int.reduceBNe, Nat.reduceEqDiff, Tryd.underlying3, Tryd.underlying4, Tryd.underlying5, Tryd.underlying9]
  refine aloop (ι := Nat) (fun i => s.length - i) (fun i => [(6, .int .i64 i), (5, .int .i64 s.length), (0, .str s)]) (fun _ => []) (fun i => i ≤ s.length ∧ (s.take i).all okB = true) 0 ⟨by omega, by simp⟩ ?_ ?_
  · refine Shift.weak ?_
    simp only [wk, go_sem, Nat.reduceAdd, Nat.reduceMul, Nat.reduceSub, Nat.reduceBEq, Nat.reduceLT, Nat.reduceLeDiff, reduceIte, reduceCtorEq, Int.reduceToNat, Int.reduceLE, Int.reduceLT, Int.reduceNe, Int.reduceMul, Int.reduceAdd, Int.reduceSub, Int.reduceDiv, Int.reduceMod, Int.reduceEq, Int.reduceGE, Int.reduceGT, Int.reduceNeg, Int.reduceBEq, Int.reduceBNe, Nat.reduceEqDiff]
  · rintro i ⟨g1, g2⟩ J hJ
    refine go (N := 33) Tryd.ntmps41 200 ?_
    by_cases hi : (i : Int) < s.length
    · have hil : i < s.length := by omega
      have hgd : s.getD i 0 = s[i] := by simp [List.getD, hil]
      by_cases hc1 : ((s[i].toNat : Int) < 32)
      · have d1 : decide ((s[i].toNat : Int) < 32) = true := by simpa using hc1
        simp only [go_sem, Nat.reduceAdd, Nat.reduceMul, Nat.reduceSub, Nat.reduceBEq, Nat.reduceLT, Nat.reduceLeDiff, reduceIte, reduceCtorEq, Int.reduceToNat, Int.reduceLE, Int.reduceLT, Int.reduceNe, Int.reduceMul, Int.reduceAdd, Int.reduceSub, Int.reduceDiv, Int.reduceMod, Int.reduceEq, Int.reduceGE, Int.reduceGT, Int.reduceNeg, Int.reduceBEq, Int.reduceBNe, Nat.reduceEqDiff, hi, hgd, d1, Tryd.underlying3, Tryd.underlying4, Tryd.underlying5, Tryd.underlying9]
        refine ⟨by omega, aret [2] rfl ⟨?_, rfl⟩⟩
        simp [resV, Av.get, plainL, all_false_at hil (p := okB) (by simp [okB]; omega)]
      · have d1 : decide ((s[i].toNat : Int) < 32) = false := by simpa using hc1
        by_cases hc2 : ((s[i].toNat : Int) > 126)
        · have d2 : decide ((s[i].toNat : Int) > 126) = true := by simpa using hc2
          simp only [go_sem, Nat.reduceAdd, Nat.reduceMul, Nat.reduceSub, Nat.reduceBEq, Nat.reduceLT, Nat.reduceLeDiff, reduceIte, reduceCtorEq, Int.reduceToNat, Int.reduceLE, Int.reduceLT, Int.reduceNe, Int.reduceMul, Int.reduceAdd, Int.reduceSub, Int.reduceDiv, Int.reduceMod, Int.reduceEq, Int.reduceGE, Int.reduceGT, Int.reduceNeg, Int.reduceBEq, Int.reduceBNe, Nat.reduceEqDiff, hi, hgd, d1, d2, Tryd.underlying3, Tryd.underlying4, Tryd.underlying5, Tryd.underlying9]
          refine ⟨by omega, by omega, aret [2] rfl ⟨?_, rfl⟩⟩
          simp [resV, Av.get, plainL, all_false_at hil (p := okB) (by simp [okB]; omega)]
        · have d2 : decide ((s[i].toNat : Int) > 126) = false := by simpa using hc2
          simp only [go_sem, Nat.reduceAdd, Nat.reduceMul, Nat.reduceSub, Nat.reduceBEq, Nat.reduceLT, Nat.reduceLeDiff, reduceIte, reduceCtorEq, Int.reduceToNat, Int.reduceLE, Int.reduceLT, Int.reduceNe, Int.reduceMul, Int.reduceAdd, Int.reduceSub, Int.reduceDiv, Int.reduceMod, Int.reduceEq, Int.reduceGE, Int.reduceGT, Int.reduceNeg, Int.reduceBEq, Int.reduceBNe, Nat.reduceEqDiff, hi, hgd, d1, d2, Tryd.underlying3, Tryd.underlying4, Tryd.underlying5, Tryd.underlying9]
          rw [show (i : Int) + 1 = ((i + 1 : Nat) : Int) by omega]
          repeat refine And.intro (by omega) ?_
          refine ainv (hJ (i + 1) ⟨by omega, all_take_succ hil g2 (by simp [okB]; omega)⟩ (by omega)) (Shift.weak ?_)
          simp only [wk, go_sem, Nat.reduceAdd, Nat.reduceMul, Nat.reduceSub, Nat.reduceBEq, Nat.reduceLT, Nat.reduceLeDiff, reduceIte, reduceCtorEq, Int.reduceToNat, Int.reduceLE, Int.reduceLT, Int.reduceNe, Int.reduceMul, Int.reduceAdd, Int.reduceSub, Int.reduceDiv, Int.reduceMod, Int.reduceEq, Int.reduceGE, Int.reduceGT, Int.reduceNeg, Int.reduceBEq, Int.reduceBNe, Nat.reduceEqDiff]
    · simp only [go_sem, Nat.reduceAdd, Nat.reduceMul, Nat.reduceSub, Nat.reduceBEq, Nat.reduceLT, Nat.reduceLeDiff, reduceIte, reduceCtorEq, Int.reduceToNat, Int.reduceLE, Int.reduceLT, Int.reduceNe, Int.reduceMul, Int.reduceAdd, Int.reduceSub, Int.reduceDiv, Int.reduceMod, Int.reduceEq, Int.reduceGE, Int.reduceGT, Int.reduceNeg, Int.reduceBEq, Int.reduceBNe, Nat.reduceEqDiff, hi, Tryd.underlying3, Tryd.underlying4, Tryd.underlying5, Tryd.underlying9]
      have hall : s.all okB = true := by rw [← g2, List.take_of_length_le (by omega)]
      refine pcall1 (hasPrefix_pc s [32]) rfl (N := 33) Tryd.ntmps41 rfl (go (N := 33) Tryd.ntmps41 200 ?_)
      cases e1 : Lib.hasPrefix s [32] with
      | true =>
        simp only [go_sem, Nat.reduceAdd, Nat.reduceMul, Nat.reduceSub, Nat.reduceBEq, Nat.reduceLT, Nat.reduceLeDiff, reduceIte, reduceCtorEq, Int.reduceToNat, Int.reduceLE, Int.reduceLT, Int.reduceNe, Int.reduceMul, Int.reduceAdd, Int.reduceSub, Int.reduceDiv, Int.reduceMod, Int.reduceEq, Int.reduceGE, Int.reduceGT, Int.reduceNeg, Int.reduceBEq, Int.reduceBNe, Nat.reduceEqDiff, Tryd.underlying3, Tryd.underlying4, Tryd.underlying5, Tryd.underlying9]
        refine aret [2] rfl ⟨?_, rfl⟩
        simp [resV, Av.get, plainL, e1]
      | false =>
        simp only [go_sem, Nat.reduceAdd, Nat.reduceMul, Nat.reduceSub, Nat.reduceBEq, Nat.reduceLT, Nat.reduceLeDiff, reduceIte, reduceCtorEq, Int.reduceToNat, Int.reduceLE, Int.reduceLT, Int.reduceNe, Int.reduceMul, Int.reduceAdd, Int.reduceSub, Int.reduceDiv, Int.reduceMod, Int.reduceEq, Int.reduceGE, Int.reduceGT, Int.reduceNeg, Int.reduceBEq, Int.reduceBNe, Nat.reduceEqDiff, Tryd.underlying3, Tryd.underlying4, Tryd.underlying5, Tryd.underlying9]
        refine pcall1 (hasSuffix_pc s [32] (by omega)) rfl (N := 33) Tryd.ntmps41 rfl (go (N := 33) Tryd.ntmps41 200 ?_)
        cases e2 : Lib.hasSuffix s [32] with
        | true =>
          simp only [go_sem, Nat.reduceAdd, Nat.reduceMul, Nat.reduceSub, Nat.reduceBEq, Nat.reduceLT, Nat.reduceLeDiff, reduceIte, reduceCtorEq, Int.reduceToNat, Int.reduceLE, Int.reduceLT, Int.reduceNe, Int.reduceMul, Int.reduceAdd, Int.reduceSub, Int.reduceDiv, Int.reduceMod, Int.reduceEq, Int.reduceGE, Int.reduceGT, Int.reduceNeg, Int.reduceBEq, Int.reduceBNe, Nat.reduceEqDiff, Tryd.underlying3, Tryd.underlying4, Tryd.underlying5, Tryd.underlying9]
          refine aret [2] rfl ⟨?_, rfl⟩
          simp [resV, Av.get, plainL, e2]
        | false =>
          simp only [go_sem, Nat.reduceAdd, Nat.reduceMul, Nat.reduceSub, Nat.reduceBEq, Nat.reduceLT, Nat.reduceLeDiff, reduceIte, reduceCtorEq, Int.reduceToNat, Int.reduceLE, Int.reduceLT, Int.reduceNe, Int.reduceMul, Int.reduceAdd, Int.reduceSub, Int.reduceDiv, Int.reduceMod, Int.reduceEq, Int.reduceGE, Int.reduceGT, Int.reduceNeg, Int.reduceBEq, Int.reduceBNe, Nat.reduceEqDiff, Tryd.underlying3, Tryd.underlying4, Tryd.underlying5, Tryd.underlying9]
          refine pcallH1 hg (contains_pch m s [32, 32] (by omega)) rfl (N := 33) Tryd.ntmps41 rfl (go (N := 33) Tryd.ntmps41 200 ?_)
          simp only [go_sem, Nat.reduceAdd, Nat.reduceMul, Nat.reduceSub, Nat.reduceBEq, Nat.reduceLT, Nat.reduceLeDiff, reduceIte, reduceCtorEq, Int.reduceToNat, Int.reduceLE, Int.reduceLT, Int.reduceNe, Int.reduceMul, Int.reduceAdd, Int.reduceSub, Int.reduceDiv, Int.reduceMod, Int.reduceEq, Int.reduceGE, Int.reduceGT, Int.reduceNeg, Int.reduceBEq, Int.reduceBNe, Nat.reduceEqDiff, Tryd.underlying3, Tryd.underlying4, Tryd.underlying5, Tryd.underlying9]
          refine aret [2] rfl ⟨?_, rfl⟩
          simp [resV, Av.get, plainL, e1, e2, hall]

/-- one byte of a proper string -/
def okP (o : List UInt8) (c : UInt8) : Bool := capI c.toNat || (digI c.toNat || (((c.toNat : Int) == 32) || !(decide (Lib.indexByte o c < 0))))
def properL (s : List UInt8) (most : Int) (o : List UInt8) : Bool :=
  !(decide ((s.length : Int) < 1)) && (!(decide ((s.length : Int) > most)) && (capI (s.getD 0 0).toNat && (plainL s && s.all (okP o))))

theorem proper_pch (m : Int) (s : List UInt8) (most : Int) (o : List UInt8) (hs : s.length < 1000000) : PcH Tryd.prog (gm m) 81 [.str s, .int .i64 most, .str o] (· = .bool (properL s most o)) := by
  refine pch_intro (cth_intro Tryd.func81 rfl Tryd.ntmps81 b81 (by simp) fun h ρ w hg => go (N := 60) Tryd.ntmps81 300 ?_)
  by_cases h1 : (s.length : Int) < 1
  · have d1 : decide ((s.length : Int) < 1) = true := by simpa using h1
    simp only [go_sem, Nat.reduceAdd, Nat.reduceMul, Nat.reduceSub, Nat.reduceBEq, Nat.reduceLT, Nat.reduceLeDiff, reduceIte, reduceCtorEq, Int.reduceToNat, Int.reduceLE, Int.reduceLT, Int.reduceNe, Int.reduceMul, Int.reduceAdd, Int.reduceSub, Int.reduceDiv, Int.reduceMod, Int.reduceEq, Int.reduceGE, Int.reduceGT, Int.reduceNeg, Int.reduceBEq, Int.reduceBNe, Nat.reduceEqDiff, d1, Tryd.underlying3, Tryd.underlying4, Tryd.underlying5, Tryd.underlying9]
    exact aret [6] rfl ⟨by simp [resV, Av.get, properL, h1], rfl⟩
  have d1 : decide ((s.length : Int) < 1) = false := by simpa using h1
  by_cases h2 : (s.length : Int) > most
  · have d2 : decide ((s.length : Int) > most) = true := by simpa using h2
    simp only [go_sem, Nat.reduceAdd, Nat.reduceMul, Nat.reduceSub, Nat.reduceBEq, Nat.reduceLT, Nat.reduceLeDiff, reduceIte, reduceCtorEq, Int.reduceToNat, Int.reduceLE, Int.reduceLT, Int.reduceNe, Int.reduceMul, Int.reduceAdd, Int.reduceSub, Int.reduceDiv, Int.reduceMod, Int.reduceEq, Int.reduceGE, Int.reduceGT, Int.reduceNeg, Int.reduceBEq, Int.reduceBNe, Nat.reduceEqDiff, d1, d2, Tryd.underlying3, Tryd.underlying4, Tryd.underlying5, Tryd.underlying9]
    exact aret [6] rfl ⟨by simp [resV, Av.get, properL, h2], rfl⟩
  have d2 : decide ((s.length : Int) > most) = false := by simpa using h2
  simp only [go_sem, Nat.reduceAdd, Nat.reduceMul, Nat.reduceSub, Nat.reduceBEq, Nat.reduceLT, Nat.reduceLeDiff, reduceIte, reduceCtorEq, Int.reduceToNat, Int.reduceLE, Int.reduceLT, Int.reduceNe, Int.reduceMul, Int.reduceAdd, Int.reduceSub, Int.reduceDiv, Int.reduceMod, Int.reduceEq, Int.reduceGE, Int.reduceGT, Int.reduceNeg, Int.reduceBEq, Int.reduceBNe, Nat.reduceEqDiff, d1, d2, Tryd.underlying3, Tryd.underlying4, Tryd.underlying5, Tryd.underlying9]
  have hpos : 0 < s.length := by omega
  refine ⟨by omega, ?_⟩
  refine pcall1 (isCapital_pc _) rfl (N := 60) Tryd.ntmps81 rfl (go (N := 60) Tryd.ntmps81 300 ?_)
  cases e1 : capI (s.getD 0 0).toNat with
  | false =>
    simp only [go_sem, Nat.reduceAdd, Nat.reduceMul, Nat.reduceSub, Nat.reduceBEq, Nat.reduceLT, Nat.reduceLeDiff, reduceIte, reduceCtorEq, Int.reduceToNat, Int.reduceLE, Int.reduceLT, Int.reduceNe, Int.reduceMul, Int.reduceAdd, Int.reduceSub, Int.reduceDiv, Int.reduceMod, Int.reduceEq, Int.reduceGE, Int.reduceGT, Int.reduceNeg, Int.reduceBEq, Int.reduceBNe, Nat.reduceEqDiff, Tryd.underlying3, Tryd.underlying4, Tryd.underlying5, Tryd.underlying9]
    exact aret [6] rfl ⟨by simp only [resV, Av.get, properL, e1]; simp, rfl⟩
  | true =>
  simp only [go_sem, Nat.reduceAdd, Nat.reduceMul, Nat.reduceSub, Nat.reduceBEq, Nat.reduceLT, Nat.reduceLeDiff, reduceIte, reduceCtorEq, Int.reduceToNat, Int.reduceLE, Int.reduceLT, Int.reduceNe, Int.reduceMul, Int.reduceAdd, Int.reduceSub, Int.reduceDiv, Int.reduceMod, Int.reduceEq, Int.reduceGE, Int.reduceGT, Int.reduceNeg, Int.reduceBEq, Int.reduceBNe, Nat.reduceEqDiff, Tryd.underlying3, Tryd.underlying4, Tryd.underlying5, Tryd.underlying9]
  refine pcallH1 hg (plain_pch m s hs) rfl (N := 60) Tryd.ntmps81 rfl (go (N := 60) Tryd.ntmps81 300 ?_)
  cases e2 : plainL s with
  | false =>
    simp only [go_sem, Nat.reduceAdd, Nat.reduceMul, Nat.reduceSub, Nat.reduceBEq, Nat.reduceLT, Nat.reduceLeDiff, reduceIte, reduceCtorEq, Int.reduceToNat, Int.reduceLE, Int.reduceLT, Int.reduceNe, Int.reduceMul, Int.reduceAdd, Int.reduceSub, Int.reduceDiv, Int.reduceMod, Int.reduceEq, Int.reduceGE, Int.reduceGT, Int.reduceNeg, Int.reduceBEq, Int.reduceBNe, Nat.reduceEqDiff, Tryd.underlying3, Tryd.underlying4, Tryd.underlying5, Tryd.underlying9]
    exact aret [6] rfl ⟨by simp only [resV, Av.get, properL, e2]; simp, rfl⟩
  | true =>
  simp only [go_sem, Nat.reduceAdd, Nat.reduceMul, Nat.reduceSub, Nat.reduceBEq, Nat.reduceLT, Nat.reduceLeDiff, reduceIte, reduceCtorEq, Int.reduceToNat, Int.reduceLE, Int.reduceLT, Int.reduceNe, Int.reduceMul, Int.reduceAdd, Int.reduceSub, Int.reduceDiv, Int.reduceMod, Int.reduceEq, Int.reduceGE, Int.reduceGT, Int.reduceNeg, Int.reduceBEq, Int.reduceBNe, Nat.reduceEqDiff, Tryd.underlying3, Tryd.underlying4, Tryd.underlying5, Tryd.underlying9]
  have hval : properL s most o = s.all (okP o) := by simp only [properL, d1, d2, e1, e2]; simp
  rw [hval]
  refine aloop (ι := Nat) (fun i => s.length - i) (fun i => [(30, .int .i64 i), (29, .int .i64 s.length), (0, .str s), (2, .str o)]) (fun _ => []) (fun i => i ≤ s.length ∧ (s.take i).all (okP o) = true) 0 ⟨by omega, by simp⟩ ?_ ?_
  · refine Shift.weak ?_
    simp only [wk, go_sem, Nat.reduceAdd, Nat.reduceMul, Nat.reduceSub, Nat.reduceBEq, Nat.reduceLT, Nat.reduceLeDiff, reduceIte, reduceCtorEq, Int.reduceToNat, Int.reduceLE, Int.reduceLT, Int.reduceNe, Int.reduceMul, Int.reduceAdd, Int.reduceSub, Int.reduceDiv, Int.reduceMod, Int.reduceEq, Int.reduceGE, Int.reduceGT, Int.reduceNeg, Int.reduceBEq, Int.reduceBNe, Nat.reduceEqDiff]
  · rintro i ⟨g1, g2⟩ J hJ
    refine go (N := 60) Tryd.ntmps81 300 ?_
    by_cases hi : (i : Int) < s.length
    · have hil : i < s.length := by omega
      have hgd : s.getD i 0 = s[i] := by simp [List.getD, hil]
      simp only [go_sem, Nat.reduceAdd, Nat.reduceMul, Nat.reduceSub, Nat.reduceBEq, Nat.reduceLT, Nat.reduceLeDiff, reduceIte, reduceCtorEq, Int.reduceToNat, Int.reduceLE, Int.reduceLT, Int.reduceNe, Int.reduceMul, Int.reduceAdd, Int.reduceSub, Int.reduceDiv, Int.reduceMod, Int.reduceEq, Int.reduceGE, Int.reduceGT, Int.reduceNeg, Int.reduceBEq, Int.reduceBNe, Nat.reduceEqDiff, hi, hgd, Tryd.underlying3, Tryd.underlying4, Tryd.underlying5, Tryd.underlying9]
      refine ⟨by omega, ?_⟩
      refine pcall1 (isCapital_pc _) rfl (N := 60) Tryd.ntmps81 rfl (go (N := 60) Tryd.ntmps81 300 ?_)
      cases c1 : capI (s[i].toNat : Int) with
      | true =>
        simp only [go_sem, Nat.reduceAdd, Nat.reduceMul, Nat.reduceSub, Nat.reduceBEq, Nat.reduceLT, Nat.reduceLeDiff, reduceIte, reduceCtorEq, Int.reduceToNat, Int.reduceLE, Int.reduceLT, Int.reduceNe, Int.reduceMul, Int.reduceAdd, Int.reduceSub, Int.reduceDiv, Int.reduceMod, Int.reduceEq, Int.reduceGE, Int.reduceGT, Int.reduceNeg, Int.reduceBEq, Int.reduceBNe, Nat.reduceEqDiff, Tryd.underlying3, Tryd.underlying4, Tryd.underlying5, Tryd.underlying9]
        rw [show (i : Int) + 1 = ((i + 1 : Nat) : Int) by omega]
        repeat refine And.intro (by omega) ?_
        refine ainv (hJ (i + 1) ⟨by omega, all_take_succ hil g2 (by simp only [okP, c1]; rfl)⟩ (by omega)) (Shift.weak ?_)
        simp only [wk, go_sem, Nat.reduceAdd, Nat.reduceMul, Nat.reduceSub, Nat.reduceBEq, Nat.reduceLT, Nat.reduceLeDiff, reduceIte, reduceCtorEq, Int.reduceToNat, Int.reduceLE, Int.reduceLT, Int.reduceNe, Int.reduceMul, Int.reduceAdd, Int.reduceSub, Int.reduceDiv, Int.reduceMod, Int.reduceEq, Int.reduceGE, Int.reduceGT, Int.reduceNeg, Int.reduceBEq, Int.reduceBNe, Nat.reduceEqDiff]
      | false =>
        simp only [go_sem, Nat.reduceAdd, Nat.reduceMul, Nat.reduceSub, Nat.reduceBEq, Nat.reduceLT, Nat.reduceLeDiff, reduceIte, reduceCtorEq, Int.reduceToNat, Int.reduceLE, Int.reduceLT, Int.reduceNe, Int.reduceMul, Int.reduceAdd, Int.reduceSub, Int.reduceDiv, Int.reduceMod, Int.reduceEq, Int.reduceGE, Int.reduceGT, Int.reduceNeg, Int.reduceBEq, Int.reduceBNe, Nat.reduceEqDiff, hi, hgd, Tryd.underlying3, Tryd.underlying4, Tryd.underlying5, Tryd.underlying9]
        refine ⟨by omega, ?_⟩
        refine pcall1 (isDigit_pc _) rfl (N := 60) Tryd.ntmps81 rfl (go (N := 60) Tryd.ntmps81 300 ?_)
        cases c2 : digI (s[i].toNat : Int) with
        | true =>
          simp only [go_sem, Nat.reduceAdd, Nat.reduceMul, Nat.reduceSub, Nat.reduceBEq, Nat.reduceLT, Nat.reduceLeDiff, reduceIte, reduceCtorEq, Int.reduceToNat, Int.reduceLE, Int.reduceLT, Int.reduceNe, Int.reduceMul, Int.reduceAdd, Int.reduceSub, Int.reduceDiv, Int.reduceMod, Int.reduceEq, Int.reduceGE, Int.reduceGT, Int.reduceNeg, Int.reduceBEq, Int.reduceBNe, Nat.reduceEqDiff, Tryd.underlying3, Tryd.underlying4, Tryd.underlying5, Tryd.underlying9]
          rw [show (i : Int) + 1 = ((i + 1 : Nat) : Int) by omega]
          repeat refine And.intro (by omega) ?_
          refine ainv (hJ (i + 1) ⟨by omega, all_take_succ hil g2 (by simp only [okP, c1, c2]; rfl)⟩ (by omega)) (Shift.weak ?_)
          simp only [wk, go_sem, Nat.reduceAdd, Nat.reduceMul, Nat.reduceSub, Nat.reduceBEq, Nat.reduceLT, Nat.reduceLeDiff, reduceIte, reduceCtorEq, Int.reduceToNat, Int.reduceLE, Int.reduceLT, Int.reduceNe, Int.reduceMul, Int.reduceAdd, Int.reduceSub, Int.reduceDiv, Int.reduceMod, Int.reduceEq, Int.reduceGE, Int.reduceGT, Int.reduceNeg, Int.reduceBEq, Int.reduceBNe, Nat.reduceEqDiff]
        | false =>
          cases c3 : ((s[i].toNat : Int) == 32) with
          | true =>
            have c3' : ((s[i].toNat : Int) != 32) = false := by simpa using c3
            simp only [go_sem, Nat.reduceAdd, Nat.reduceMul, Nat.reduceSub, Nat.reduceBEq, Nat.reduceLT, Nat.reduceLeDiff, reduceIte, reduceCtorEq, Int.reduceToNat, Int.reduceLE, Int.reduceLT, Int.reduceNe, Int.reduceMul, Int.reduceAdd, Int.reduceSub, Int.reduceDiv, Int.reduceMod, Int.reduceEq, Int.reduceGE, Int.reduceGT, Int.reduceNeg, Int.reduceBEq, Int.reduceBNe, Nat.reduceEqDiff, hi, hgd, c3', Tryd.underlying3, Tryd.underlying4, Tryd.underlying5, Tryd.underlying9]
            rw [show (i : Int) + 1 = ((i + 1 : Nat) : Int) by omega]
            repeat refine And.intro (by omega) ?_
            refine ainv (hJ (i + 1) ⟨by omega, all_take_succ hil g2 (by simp only [okP, c1, c2, c3]; rfl)⟩ (by omega)) (Shift.weak ?_)
            simp only [wk, go_sem, Nat.reduceAdd, Nat.reduceMul, Nat.reduceSub, Nat.reduceBEq, Nat.reduceLT, Nat.reduceLeDiff, reduceIte, reduceCtorEq, Int.reduceToNat, Int.reduceLE, Int.reduceLT, Int.reduceNe, Int.reduceMul, Int.reduceAdd, Int.reduceSub, Int.reduceDiv, Int.reduceMod, Int.reduceEq, Int.reduceGE, Int.reduceGT, Int.reduceNeg, Int.reduceBEq, Int.reduceBNe, Nat.reduceEqDiff]
          | false =>
            have c3' : ((s[i].toNat : Int) != 32) = true := by simpa using c3
            simp only [go_sem, Nat.reduceAdd, Nat.reduceMul, Nat.reduceSub, Nat.reduceBEq, Nat.reduceLT, Nat.reduceLeDiff, reduceIte, reduceCtorEq, Int.reduceToNat, Int.reduceLE, Int.reduceLT, Int.reduceNe, Int.reduceMul, Int.reduceAdd, Int.reduceSub, Int.reduceDiv, Int.reduceMod, Int.reduceEq, Int.reduceGE, Int.reduceGT, Int.reduceNeg, Int.reduceBEq, Int.reduceBNe, Nat.reduceEqDiff, hi, hgd, c3', Tryd.underlying3, Tryd.underlying4, Tryd.underlying5, Tryd.underlying9]
            refine ⟨by omega, by omega, ?_⟩
            refine pcall1 (indexByte_pc o (s[i].toNat : Int)) rfl (N := 60) Tryd.ntmps81 rfl (go (N := 60) Tryd.ntmps81 300 ?_)
            have hb : ((s[i].toNat : Int)).toNat.toUInt8 = s[i] := by simp
            rw [hb]
            cases c4 : decide (Lib.indexByte o s[i] < 0) with
            | false =>
              simp only [go_sem, Nat.reduceAdd, Nat.reduceMul, Nat.reduceSub, Nat.reduceBEq, Nat.reduceLT, Nat.reduceLeDiff, reduceIte, reduceCtorEq, Int.reduceToNat, Int.reduceLE, Int.reduceLT, Int.reduceNe, Int.reduceMul, Int.reduceAdd, Int.reduceSub, Int.reduceDiv, Int.reduceMod, Int.reduceEq, Int.reduceGE, Int.reduceGT, Int.reduceNeg, Int.reduceBEq, Int.reduceBNe, Nat.reduceEqDiff, c4, Tryd.underlying3, Tryd.underlying4, Tryd.underlying5, Tryd.underlying9]
              rw [show (i : Int) + 1 = ((i + 1 : Nat) : Int) by omega]
              repeat refine And.intro (by omega) ?_
              refine ainv (hJ (i + 1) ⟨by omega, all_take_succ hil g2 (by simp only [okP, c1, c2, c3, c4]; rfl)⟩ (by omega)) (Shift.weak ?_)
              simp only [wk, go_sem, Nat.reduceAdd, Nat.reduceMul, Nat.reduceSub, Nat.reduceBEq, Nat.reduceLT, Nat.reduceLeDiff, reduceIte, reduceCtorEq, Int.reduceToNat, Int.reduceLE, Int.reduceLT, Int.reduceNe, Int.reduceMul, Int.reduceAdd, Int.reduceSub, Int.reduceDiv, Int.reduceMod, Int.reduceEq, Int.reduceGE, Int.reduceGT, Int.reduceNeg, Int.reduceBEq, Int.reduceBNe, Nat.reduceEqDiff]
            | true =>
              simp only [go_sem, Nat.reduceAdd, Nat.reduceMul, Nat.reduceSub, Nat.reduceBEq, Nat.reduceLT, Nat.reduceLeDiff, reduceIte, reduceCtorEq, Int.reduceToNat, Int.reduceLE, Int.reduceLT, Int.reduceNe, Int.reduceMul, Int.reduceAdd, Int.reduceSub, Int.reduceDiv, Int.reduceMod, Int.reduceEq, Int.reduceGE, Int.reduceGT, Int.reduceNeg, Int.reduceBEq, Int.reduceBNe, Nat.reduceEqDiff, c4, Tryd.underlying3, Tryd.underlying4, Tryd.underlying5, Tryd.underlying9]
              refine aret [6] rfl ⟨?_, rfl⟩
              simp [resV, Av.get, all_false_at hil (p := okP o) (by simp only [okP, c1, c2, c3, c4]; rfl)]
    · simp only [go_sem, Nat.reduceAdd, Nat.reduceMul, Nat.reduceSub, Nat.reduceBEq, Nat.reduceLT, Nat.reduceLeDiff, reduceIte, reduceCtorEq, Int.reduceToNat, Int.reduceLE, Int.reduceLT, Int.reduceNe, Int.reduceMul, Int.reduceAdd, Int.reduceSub, Int.reduceDiv, Int.reduceMod, Int.reduceEq, Int.reduceGE, Int.reduceGT, Int.reduceNeg, Int.reduceBEq, Int.reduceBNe, Nat.reduceEqDiff, hi, Tryd.underlying3, Tryd.underlying4, Tryd.underlying5, Tryd.underlying9]
      have hall : s.all (okP o) = true := by rw [← g2, List.take_of_length_le (by omega)]
      exact aret [6] rfl ⟨by simp [resV, Av.get, hall], rfl⟩

def isSetL (s : List UInt8) : Bool := properL s 60 [39, 46, 45, 47] && (!Lib.contains s [32, 45, 32] && !Lib.hasSuffix s [32, 45])

theorem isSet_pch (m : Int) (s : List UInt8) (hs : s.length < 1000000) : PcH Tryd.prog (gm m) 64 [.str s] (· = .bool (isSetL s)) := by
  refine pch_intro (cth_intro Tryd.func64 rfl Tryd.ntmps64 b64 (by simp) fun h ρ w hg => go (N := 15) Tryd.ntmps64 300 ?_)
  simp only [go_sem, Nat.reduceAdd, Nat.reduceMul, Nat.reduceSub, Nat.reduceBEq, Nat.reduceLT, Nat.reduceLeDiff, reduceIte, reduceCtorEq, Int.reduceToNat, Int.reduceLE, Int.reduceLT, Int.reduceNe, Int.reduceMul, Int.reduceAdd, Int.reduceSub, Int.reduceDiv, Int.reduceMod, Int.reduceEq, Int.reduceGE, Int.reduceGT, Int.reduceNeg, Int.reduceBEq, Int.reduceBNe, Nat.reduceEqDiff, Tryd.underlying3, Tryd.underlying4, Tryd.underlying5, Tryd.underlying9]
  refine pcallH1 hg (proper_pch m s 60 [39, 46, 45, 47] hs) rfl (N := 15) Tryd.ntmps64 rfl (go (N := 15) Tryd.ntmps64 300 ?_)
  cases e1 : properL s 60 [39, 46, 45, 47] with
  | false =>
    simp only [go_sem, Nat.reduceAdd, Nat.reduceMul, Nat.reduceSub, Nat.reduceBEq, Nat.reduceLT, Nat.reduceLeDiff, reduceIte, reduceCtorEq, Int.reduceToNat, Int.reduceLE, Int.reduceLT, Int.reduceNe, Int.reduceMul, Int.reduceAdd, Int.reduceSub, Int.reduceDiv, Int.reduceMod, Int.reduceEq, Int.reduceGE, Int.reduceGT, Int.reduceNeg, Int.reduceBEq, Int.reduceBNe, Nat.reduceEqDiff, Tryd.underlying3, Tryd.underlying4, Tryd.underlying5, Tryd.underlying9]
    exact aret [2] rfl ⟨by simp [resV, Av.get, isSetL, e1], rfl⟩
  | true =>
    simp only [go_sem, Nat.reduceAdd, Nat.reduceMul, Nat.reduceSub, Nat.reduceBEq, Nat.reduceLT, Nat.reduceLeDiff, reduceIte, reduceCtorEq, Int.reduceToNat, Int.reduceLE, Int.reduceLT, Int.reduceNe, Int.reduceMul, Int.reduceAdd, Int.reduceSub, Int.reduceDiv, Int.reduceMod, Int.reduceEq, Int.reduceGE, Int.reduceGT, Int.reduceNeg, Int.reduceBEq, Int.reduceBNe, Nat.reduceEqDiff, Tryd.underlying3, Tryd.underlying4, Tryd.underlying5, Tryd.underlying9]
    refine pcallH1 hg (contains_pch m s [32, 45, 32] (by omega)) rfl (N := 15) Tryd.ntmps64 rfl (go (N := 15) Tryd.ntmps64 300 ?_)
    cases e2 : Lib.contains s [32, 45, 32] with
    | true =>
      simp only [go_sem, Nat.reduceAdd, Nat.reduceMul, Nat.reduceSub, Nat.reduceBEq, Nat.reduceLT, Nat.reduceLeDiff, reduceIte, reduceCtorEq, Int.reduceToNat, Int.reduceLE, Int.reduceLT, Int.reduceNe, Int.reduceMul, Int.reduceAdd, Int.reduceSub, Int.reduceDiv, Int.reduceMod, Int.reduceEq, Int.reduceGE, Int.reduceGT, Int.reduceNeg, Int.reduceBEq, Int.reduceBNe, Nat.reduceEqDiff, Tryd.underlying3, Tryd.underlying4, Tryd.underlying5, Tryd.underlying9]
      exact aret [2] rfl ⟨by simp [resV, Av.get, isSetL, e2], rfl⟩
    | false =>
      simp only [go_sem, Nat.reduceAdd, Nat.reduceMul, Nat.reduceSub, Nat.reduceBEq, Nat.reduceLT, Nat.reduceLeDiff, reduceIte, reduceCtorEq, Int.reduceToNat, Int.reduceLE, Int.reduceLT, Int.reduceNe, Int.reduceMul, Int.reduceAdd, Int.reduceSub, Int.reduceDiv, Int.reduceMod, Int.reduceEq, Int.reduceGE, Int.reduceGT, Int.reduceNeg, Int.reduceBEq, Int.reduceBNe, Nat.reduceEqDiff, Tryd.underlying3, Tryd.underlying4, Tryd.underlying5, Tryd.underlying9]
      refine pcall1 (hasSuffix_pc s [32, 45] (by omega)) rfl (N := 15) Tryd.ntmps64 rfl (go (N := 15) Tryd.ntmps64 300 ?_)
      simp only [go_sem, Nat.reduceAdd, Nat.reduceMul, Nat.reduceSub, Nat.reduceBEq, Nat.reduceLT, Nat.reduceLeDiff, reduceIte, reduceCtorEq, Int.reduceToNat, Int.reduceLE, Int.reduceLT, Int.reduceNe, Int.reduceMul, Int.reduceAdd, Int.reduceSub, Int.reduceDiv, Int.reduceMod, Int.reduceEq, Int.reduceGE, Int.reduceGT, Int.reduceNeg, Int.reduceBEq, Int.reduceBNe, Nat.reduceEqDiff, Tryd.underlying3, Tryd.underlying4, Tryd.underlying5, Tryd.underlying9]
      exact aret [2] rfl ⟨by simp [resV, Av.get, isSetL, e1, e2], rfl⟩
end Go.Proofs.YtpjbbpilgfihbaaDoor
