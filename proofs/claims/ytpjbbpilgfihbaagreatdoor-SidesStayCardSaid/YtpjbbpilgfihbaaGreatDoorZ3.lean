/- Checks of paragraphs. Own work of this seat. -/
import Derived.Test.YtpjbbpilgfihbaaGreatDoorZ2
import Derived.Test.YtpjbbpilgfihbaaGreatDoorZ1
import Derived.Test.YtpjbbpilgfihbaaGreatDoorK4
import Derived.Test.YtpjbbpilgfihbaaGreatDoorK3
set_option maxRecDepth 100000
set_option linter.unusedSimpArgs false
set_option linter.unusedVariables false
namespace Go.Proofs.YtpjbbpilgfihbaaGreatDoor
open Go Go.Av Go.RowKit
attribute [local go_sem ↓] br_true br_false dbr_true dbr_false dbri_true dbri_false dbrg_true dbrg_false
attribute [local go_sem] run cont br dbr dx dxc dgrd dyld dres dcall calm fieldPlace? allHas step1 opN grdN resN condN exitN stopN exitIt dOk xop xbin xint xarith xstr xbool xpick xnot xneg xextract xpart xpartOk xindex xfieldF fieldD xnew xbox xalloc xfieldAddr xptrAddIf xindexAddr xloadC xload putCells reElem xstoreB xstore xconv xtext xlen xlen2 xcall xfill xbuild cut rep xbuildSlice xbuildSliceD isRow elemD isU8 ev evs evp Go.Av.put Go.Av.get ofConst yldD yldV notBool_undef args0 cellsOf cond_true cond_false decide_true decide_false decide_eq_true_eq decide_eq_false_iff_not List.getElem?_cons_zero List.getElem?_cons_succ List.getElem?_nil List.getD_cons_zero List.getD_cons_succ List.getD_nil List.set_cons_zero List.set_cons_succ List.length_cons List.length_nil List.cons_append List.nil_append List.append_nil List.all_cons List.all_nil List.map_cons List.map_nil List.take_succ_cons List.take_zero List.drop_succ_cons List.drop_zero Bool.and_true Bool.true_and Bool.and_self Bool.and_false Bool.false_and one Go.Av.frozen beq_self_eq_true true_and and_true forall_const false_implies implies_true and_self Option.map_some Option.map_none Nat.zero_add Nat.add_zero Nat.zero_mul Nat.mul_one Nat.one_mul Int.toNat_zero ne_eq not_false_eq_true not_true_eq_false Bool.true_eq_false Bool.false_eq_true List.toList_toArray inr Go.Av.byteOf isByte decide_eq_decide Bool.not_true Bool.not_false Bool.not_eq_true' Bool.or_true Bool.true_or Bool.or_false Bool.false_or ge_iff_le gt_iff_lt and_assoc Bool.decide_eq_true beq_iff_eq beq_eq_false_iff_ne bne_iff_ne bne_self_eq_false if_true if_false Bool.and_eq_true Bool.or_eq_true Bool.and_eq_false_imp Bool.or_eq_false_iff Bool.not_eq_false' has Option.isSome_some Option.isSome_none Int.toNat_natCast Int.cast_ofNat_Int List.length_append xapp2 xapp xappS xappD xappB notInt srcOf srcB byteAV splice' xcut xcutS xcutF xcutB xcutN xcut0 cutL loOf hiOf evo xmake zelem xmax xcopy2 xcopyS xcopyB xnil xcut3 ixOf xclear2 xclearB List.getElem?_toArray xbin2 xnileq xempty xmkmap xmput xmputB xmputF isKey keyEq mfind xbin3 xeqs xeqop eqFs bothB leafEq xlook xlookB xlookF xbytes beq_c_n beq_n_c bne_c_n bne_n_c one_nil dxi dxic dbri rix dck reader blind opOk refOk Go.Op.operands Go.Call.operands List.contains_cons List.contains_nil dxg dxgc dbrg pck putD List.lookup_cons List.lookup_nil ts2 tb2 zl2 za2 Tryz.underlying2 ts3 tb3 zl3 za3 Tryz.underlying3 ts4 tb4 zl4 za4 Tryz.underlying4 ts5 tb5 zl5 za5 Tryz.underlying5 ts6 tb6 zl6 za6 Tryz.underlying6 ts7 tb7 za7 Tryz.underlying7 ts8 tb8 za8 Tryz.underlying8 ts9 tb9 zl9 za9 Tryz.underlying9 ts10 tb10 zl10 za10 Tryz.underlying10 ts11 tb11 zl11 za11 Tryz.underlying11 ts12 tb12 zl12 za12 Tryz.underlying12 ts13 tb13 za13 Tryz.underlying13 ts14 tb14 za14 Tryz.underlying14 ts18 tb18 za18 Tryz.underlying18 ts19 tb19 za19 Tryz.underlying19 ts21 tb21 zl21 za21 Tryz.underlying21 ts22 tb22 zl22 za22 Tryz.underlying22 ts24 tb24 za24 Tryz.underlying24 ts25 tb25 za25 Tryz.underlying25 ts27 tb27 zl27 za27 Tryz.underlying27 ts35 tb35 zl35 za35 Tryz.underlying35 ts36 tb36 za36 Tryz.underlying36 ts37 tb37 za37 Tryz.underlying37 ts39 tb39 zl39 za39 Tryz.underlying39 ts41 tb41 za41 Tryz.underlying41 ts42 tb42 za42 Tryz.underlying42 ts63 tb63 zl63 za63 Tryz.underlying63 ts64 tb64 zl64 za64 Tryz.underlying64 ts65 tb65 za65 Tryz.underlying65 ts66 tb66 za66 Tryz.underlying66 ts67 tb67 zl67 za67 Tryz.underlying67 ts69 tb69 za69 Tryz.underlying69 ts70 tb70 za70 Tryz.underlying70 ts73 tb73 za73 Tryz.underlying73 ts74 tb74 za74 Tryz.underlying74 ts75 tb75 zl75 za75 Tryz.underlying75 ts82 tb82 zl82 za82 Tryz.underlying82 ts96 tb96 za96 Tryz.underlying96 ts97 tb97 za97 Tryz.underlying97 ts103 tb103 za103 Tryz.underlying103 ts104 tb104 za104 Tryz.underlying104 ts109 tb109 zl109 za109 Tryz.underlying109 ts116 tb116 zl116 za116 Tryz.underlying116 ts117 tb117 za117 Tryz.underlying117 ts118 tb118 za118 Tryz.underlying118 ts120 tb120 zl120 za120 Tryz.underlying120 ts124 tb124 zl124 za124 Tryz.underlying124 ts126 tb126 za126 Tryz.underlying126 ts128 tb128 zl128 za128 Tryz.underlying128 ts130 tb130 za130 Tryz.underlying130 ts131 tb131 za131 Tryz.underlying131 ts153 tb153 zl153 za153 Tryz.underlying153 ts167 tb167 zl167 za167 Tryz.underlying167 ts171 tb171 zl171 za171 Tryz.underlying171 ts177 tb177 zl177 za177 Tryz.underlying177 ts183 tb183 zl183 za183 Tryz.underlying183 ts189 tb189 zl189 za189 Tryz.underlying189 ts191 tb191 zl191 za191 Tryz.underlying191 ts195 tb195 za195 Tryz.underlying195 ts196 tb196 za196 Tryz.underlying196 ts198 tb198 zl198 za198 Tryz.underlying198 ts203 tb203 Tryz.underlying203 ts209 tb209 za209 Tryz.underlying209 ts210 tb210 za210 Tryz.underlying210 ts211 tb211 Tryz.underlying211 ts216 tb216 za216 Tryz.underlying216 ts217 tb217 za217 Tryz.underlying217 ts220 tb220 Tryz.underlying220 ts225 tb225 Tryz.underlying225 ts226 tb226 Tryz.underlying226 ts227 tb227 za227 Tryz.underlying227 ts228 tb228 za228 Tryz.underlying228 ts232 tb232 zl232 za232 Tryz.underlying232 ts233 tb233 zl233 za233 Tryz.underlying233 ts235 tb235 zl235 za235 Tryz.underlying235 ts236 tb236 zl236 za236 Tryz.underlying236 ts237 tb237 za237 Tryz.underlying237 ts238 tb238 za238 Tryz.underlying238

theorem pc_libB {f : FuncId} {args : List AV} {r : AV} (vs : List Value) (v : Value) (hb : hasBody Tryz.prog f = true) (ha : ∀ h vs', RL h Lf0 true vs' args → vs' = vs) (hr : ∀ h, RV h Lf0 true v r)
    (H : ∀ w, Calls Tryz.prog f vs.toArray w fun e w' => e = .returned v ∧ Below w.heap.size w w') : Pc Tryz.prog f args (· = r) := by
  refine ⟨hb, fun h w vs' hm hv => ?_⟩
  have := ha h vs' hv
  subst this
  refine (H w).mono ?_
  rintro e w' ⟨rfl, hs⟩
  have hs : Same w w' := ⟨hs.os, hs.tape, hs.output, hs.size, hs.block⟩
  exact ⟨v, r, h, rfl, rfl, fun b o v e => ⟨hs.cell (hm b o v e).1, (hm b o v e).2⟩, fun _ _ _ x => x, fun b o e n => (n e).elim, hs, hr h⟩

def asciiL (s : List UInt8) : Prop := ∀ b ∈ s, b.toNat < 128
theorem ascii_at {s : List UInt8} (h : asciiL s) : ∀ (j : Nat) b, (⟨s.toArray⟩ : ByteArray).data.toList[j]? = some b → b.toNat < 128 := fun j b hb => h b (List.mem_of_getElem? hb)
theorem ascii_set {s : List UInt8} (h : s.all (fun b => decide (b.toNat < 128)) = true) : asciiL s := fun b hb => of_decide_eq_true (List.all_eq_true.1 h b hb)
theorem ascii_ok {s : List UInt8} (h : s.all okB = true) : asciiL s := fun b hb => by
  have := List.all_eq_true.1 h b hb
  simp only [okB, Bool.and_eq_true, Bool.not_eq_true', decide_eq_false_iff_not] at this
  omega

theorem set116 : (Tryz.prog.info? (Tryz.lays150_ren.t 116)).map (fun i => (i.zero, i.size)) = some (some (.agg (Array.replicate 256 (.bool false))), 256) := by kernel_rfl
theorem set160 : (Tryz.prog.info? (Tryz.lays160_ren.t 116)).map (fun i => (i.zero, i.size)) = some (some (.agg (Array.replicate 256 (.bool false))), 256) := by kernel_rfl
theorem set161 : (Tryz.prog.info? (Tryz.lays161_ren.t 116)).map (fun i => (i.zero, i.size)) = some (some (.agg (Array.replicate 256 (.bool false))), 256) := by kernel_rfl
theorem containsAny_pc (s p : List UInt8) (hs : s.length < 4294967281) (hp : p.length < 4294967281) (h1 : asciiL s) (h2 : asciiL p) : Pc Tryz.prog 152 [.str s, .str p] (· = .bool (Lib.containsAny s p)) :=
  pc_libB [_, _] (.bool (Lib.containsAny s p)) hB152 (two_strs s p) (fun h => .bool _) fun w => Any.strings_ContainsAny_laid Tryz.lays150 set116 ⟨s.toArray⟩ ⟨p.toArray⟩ w hs hp (ascii_at h1) (ascii_at h2)
theorem trim_pc (s p : List UInt8) (hs : s.length < 4294967281) (hp : p.length < 4294967281) (h2 : asciiL p) : Pc Tryz.prog 70 [.str s, .str p] (· = .str (Lib.trimS s p)) :=
  pc_libB [_, _] (.string ⟨(Lib.trimS s p).toArray⟩) hB70 (two_strs s p) (fun h => .str _) fun w => Any.strings_Trim_laid Tryz.lays160 set160 ⟨s.toArray⟩ ⟨p.toArray⟩ w (show s.length ≤ _ by omega) hp (ascii_at h2)
theorem trimLeft_pc (s p : List UInt8) (hp : p.length < 4294967281) (h2 : asciiL p) : Pc Tryz.prog 143 [.str s, .str p] (· = .str (Lib.trimLeftS s p)) :=
  pc_libB [_, _] (.string ⟨(Lib.trimLeftS s p).toArray⟩) hB143 (two_strs s p) (fun h => .str _) fun w => Any.strings_TrimLeft_laid Tryz.lays161 set161 ⟨s.toArray⟩ ⟨p.toArray⟩ w hp (ascii_at h2)

def turnC (c : UInt8) : Bool := capI c.toNat || (((c.toNat : Int) == 32) || ((c.toNat : Int) == 46))
def isTurnL (s : List UInt8) : Bool := s.all turnC && decide ((s.length : Int) ≤ 40)

theorem isTurn_pc (s : List UInt8) (hs : s.length < 1000000) : Pc Tryz.prog 43 [.str s] (· = .bool (isTurnL s)) := by
  refine pc_intro (ct_intro Tryz.func43 rfl Tryz.ntmps43 hB43 (by simp) fun h ρ w => go (N := 30) Tryz.ntmps43 300 ?_)
  simp only [go_sem, Nat.reduceAdd, Nat.reduceMul, Nat.reduceSub, Nat.reduceBEq, Nat.reduceLT, Nat.reduceLeDiff, reduceIte, reduceCtorEq, Int.reduceToNat, Int.reduceLE, Int.reduceLT, Int.reduceNe, Int.reduceMul, Int.reduceAdd, Int.reduceSub, Int.reduceDiv, Int.reduceMod, Int.reduceEq, Int.reduceGE, Int.reduceGT, Int.reduceNeg, Int.reduceBEq, Int.reduceBNe, Nat.reduceEqDiff]
  refine aloop (ι := Nat) (fun i => s.length - i) (fun i => [(6, .int .i64 i), (5, .int .i64 s.length), (0, .str s)]) (fun _ => []) (fun i => i ≤ s.length ∧ (s.take i).all turnC = true) 0 ⟨by omega, by simp⟩ ?_ ?_
  · refine Shift.weak ?_
    simp only [wk, go_sem, Nat.reduceAdd, Nat.reduceMul, Nat.reduceSub, Nat.reduceBEq, Nat.reduceLT, Nat.reduceLeDiff, reduceIte, reduceCtorEq, Int.reduceToNat, Int.reduceLE, Int.reduceLT, Int.reduceNe, Int.reduceMul, Int.reduceAdd, Int.reduceSub, Int.reduceDiv, Int.reduceMod, Int.reduceEq, Int.reduceGE, Int.reduceGT, Int.reduceNeg, Int.reduceBEq, Int.reduceBNe, Nat.reduceEqDiff]
  · rintro i ⟨g1, g2⟩ J hJ
    refine go (N := 30) Tryz.ntmps43 300 ?_
    by_cases hi : i < s.length
    · have d1 : decide ((i : Int) < (s.length : Int)) = true := by simp; omega
      have hx : s.getD i 0 = s[i] := by simp [List.getD, hi]
      simp only [go_sem, Nat.reduceAdd, Nat.reduceMul, Nat.reduceSub, Nat.reduceBEq, Nat.reduceLT, Nat.reduceLeDiff, reduceIte, reduceCtorEq, Int.reduceToNat, Int.reduceLE, Int.reduceLT, Int.reduceNe, Int.reduceMul, Int.reduceAdd, Int.reduceSub, Int.reduceDiv, Int.reduceMod, Int.reduceEq, Int.reduceGE, Int.reduceGT, Int.reduceNeg, Int.reduceBEq, Int.reduceBNe, Nat.reduceEqDiff, d1, hx]
      refine ⟨by omega, by simpa using hi, ?_⟩
      refine pcall1 (isCapital_pc _) rfl (N := 30) Tryz.ntmps43 rfl (go (N := 30) Tryz.ntmps43 300 ?_)
      have bad : turnC s[i] = false → isTurnL s = false := fun h => by simp only [isTurnL, all_false_at hi h, Bool.false_and]
      have again : turnC s[i] = true → (s.take (i + 1)).all turnC = true := fun h => all_take_succ hi g2 h
      have e1 : (i : Int) + 1 = ((i + 1 : Nat) : Int) := by omega
      unfold turnC at bad again
      cases q1 : capI s[i].toNat with
      | true =>
        simp only [go_sem, Nat.reduceAdd, Nat.reduceMul, Nat.reduceSub, Nat.reduceBEq, Nat.reduceLT, Nat.reduceLeDiff, reduceIte, reduceCtorEq, Int.reduceToNat, Int.reduceLE, Int.reduceLT, Int.reduceNe, Int.reduceMul, Int.reduceAdd, Int.reduceSub, Int.reduceDiv, Int.reduceMod, Int.reduceEq, Int.reduceGE, Int.reduceGT, Int.reduceNeg, Int.reduceBEq, Int.reduceBNe, Nat.reduceEqDiff]
        rw [e1]
        repeat refine And.intro (by omega) ?_
        refine ainv (hJ (i + 1) ⟨by omega, again (by rw [q1]; rfl)⟩ (by omega)) (Shift.weak ?_)
        simp only [wk, go_sem, Nat.reduceAdd, Nat.reduceMul, Nat.reduceSub, Nat.reduceBEq, Nat.reduceLT, Nat.reduceLeDiff, reduceIte, reduceCtorEq, Int.reduceToNat, Int.reduceLE, Int.reduceLT, Int.reduceNe, Int.reduceMul, Int.reduceAdd, Int.reduceSub, Int.reduceDiv, Int.reduceMod, Int.reduceEq, Int.reduceGE, Int.reduceGT, Int.reduceNeg, Int.reduceBEq, Int.reduceBNe, Nat.reduceEqDiff]
      | false =>
        cases q2 : ((s[i].toNat : Int) == 32) with
        | true =>
          have q2' : ((s[i].toNat : Int) != 32) = false := by rw [bne, q2]; rfl
          simp only [go_sem, Nat.reduceAdd, Nat.reduceMul, Nat.reduceSub, Nat.reduceBEq, Nat.reduceLT, Nat.reduceLeDiff, reduceIte, reduceCtorEq, Int.reduceToNat, Int.reduceLE, Int.reduceLT, Int.reduceNe, Int.reduceMul, Int.reduceAdd, Int.reduceSub, Int.reduceDiv, Int.reduceMod, Int.reduceEq, Int.reduceGE, Int.reduceGT, Int.reduceNeg, Int.reduceBEq, Int.reduceBNe, Nat.reduceEqDiff, q2', hx]
          rw [e1]
          repeat refine And.intro (by omega) ?_
          refine ainv (hJ (i + 1) ⟨by omega, again (by rw [q1, q2]; rfl)⟩ (by omega)) (Shift.weak ?_)
          simp only [wk, go_sem, Nat.reduceAdd, Nat.reduceMul, Nat.reduceSub, Nat.reduceBEq, Nat.reduceLT, Nat.reduceLeDiff, reduceIte, reduceCtorEq, Int.reduceToNat, Int.reduceLE, Int.reduceLT, Int.reduceNe, Int.reduceMul, Int.reduceAdd, Int.reduceSub, Int.reduceDiv, Int.reduceMod, Int.reduceEq, Int.reduceGE, Int.reduceGT, Int.reduceNeg, Int.reduceBEq, Int.reduceBNe, Nat.reduceEqDiff]
        | false =>
          have q2' : ((s[i].toNat : Int) != 32) = true := by rw [bne, q2]; rfl
          cases q3 : ((s[i].toNat : Int) == 46) with
          | true =>
            have q3' : ((s[i].toNat : Int) != 46) = false := by rw [bne, q3]; rfl
            simp only [go_sem, Nat.reduceAdd, Nat.reduceMul, Nat.reduceSub, Nat.reduceBEq, Nat.reduceLT, Nat.reduceLeDiff, reduceIte, reduceCtorEq, Int.reduceToNat, Int.reduceLE, Int.reduceLT, Int.reduceNe, Int.reduceMul, Int.reduceAdd, Int.reduceSub, Int.reduceDiv, Int.reduceMod, Int.reduceEq, Int.reduceGE, Int.reduceGT, Int.reduceNeg, Int.reduceBEq, Int.reduceBNe, Nat.reduceEqDiff, q2', q3', hx]
            rw [e1]
            repeat refine And.intro (by omega) ?_
            refine ainv (hJ (i + 1) ⟨by omega, again (by rw [q1, q2, q3]; rfl)⟩ (by omega)) (Shift.weak ?_)
            simp only [wk, go_sem, Nat.reduceAdd, Nat.reduceMul, Nat.reduceSub, Nat.reduceBEq, Nat.reduceLT, Nat.reduceLeDiff, reduceIte, reduceCtorEq, Int.reduceToNat, Int.reduceLE, Int.reduceLT, Int.reduceNe, Int.reduceMul, Int.reduceAdd, Int.reduceSub, Int.reduceDiv, Int.reduceMod, Int.reduceEq, Int.reduceGE, Int.reduceGT, Int.reduceNeg, Int.reduceBEq, Int.reduceBNe, Nat.reduceEqDiff]
          | false =>
            have q3' : ((s[i].toNat : Int) != 46) = true := by rw [bne, q3]; rfl
            simp only [go_sem, Nat.reduceAdd, Nat.reduceMul, Nat.reduceSub, Nat.reduceBEq, Nat.reduceLT, Nat.reduceLeDiff, reduceIte, reduceCtorEq, Int.reduceToNat, Int.reduceLE, Int.reduceLT, Int.reduceNe, Int.reduceMul, Int.reduceAdd, Int.reduceSub, Int.reduceDiv, Int.reduceMod, Int.reduceEq, Int.reduceGE, Int.reduceGT, Int.reduceNeg, Int.reduceBEq, Int.reduceBNe, Nat.reduceEqDiff, q2', q3', hx]
            repeat refine And.intro (by omega) ?_
            exact aret [2] rfl ⟨by rw [bad (by rw [q1, q2, q3]; rfl)]; rfl, rfl⟩
    · have d1 : decide ((i : Int) < (s.length : Int)) = false := by simp; omega
      have : i = s.length := by omega
      subst this
      simp only [go_sem, Nat.reduceAdd, Nat.reduceMul, Nat.reduceSub, Nat.reduceBEq, Nat.reduceLT, Nat.reduceLeDiff, reduceIte, reduceCtorEq, Int.reduceToNat, Int.reduceLE, Int.reduceLT, Int.reduceNe, Int.reduceMul, Int.reduceAdd, Int.reduceSub, Int.reduceDiv, Int.reduceMod, Int.reduceEq, Int.reduceGE, Int.reduceGT, Int.reduceNeg, Int.reduceBEq, Int.reduceBNe, Nat.reduceEqDiff, d1]
      refine aret [2] rfl ⟨?_, rfl⟩
      rw [List.take_length] at g2
      simp [resV, Av.get, isTurnL, g2]

def nameL (s : List UInt8) : Bool := properL s 30 [39, 46, 45]
theorem isName_pch {S : Std} (hS : LibOk S) (s : List UInt8) (hs : s.length < 1000000) : PcH Tryz.prog S 36 [.str s] (· = .bool (nameL s)) := by
  refine pch_intro (cth_intro Tryz.func36 rfl Tryz.ntmps36 hB36 (by simp) fun h ρ w hg => go (N := 5) Tryz.ntmps36 300 ?_)
  simp only [go_sem, Nat.reduceAdd, Nat.reduceMul, Nat.reduceSub, Nat.reduceBEq, Nat.reduceLT, Nat.reduceLeDiff, reduceIte, reduceCtorEq, Int.reduceToNat, Int.reduceLE, Int.reduceLT, Int.reduceNe, Int.reduceMul, Int.reduceAdd, Int.reduceSub, Int.reduceDiv, Int.reduceMod, Int.reduceEq, Int.reduceGE, Int.reduceGT, Int.reduceNeg, Int.reduceBEq, Int.reduceBNe, Nat.reduceEqDiff]
  refine pcallH1 hg (proper_pch hS s 30 _ hs) rfl (N := 5) Tryz.ntmps36 rfl (go (N := 5) Tryz.ntmps36 300 ?_)
  simp only [go_sem, Nat.reduceAdd, Nat.reduceMul, Nat.reduceSub, Nat.reduceBEq, Nat.reduceLT, Nat.reduceLeDiff, reduceIte, reduceCtorEq, Int.reduceToNat, Int.reduceLE, Int.reduceLT, Int.reduceNe, Int.reduceMul, Int.reduceAdd, Int.reduceSub, Int.reduceDiv, Int.reduceMod, Int.reduceEq, Int.reduceGE, Int.reduceGT, Int.reduceNeg, Int.reduceBEq, Int.reduceBNe, Nat.reduceEqDiff]
  exact aret [2] rfl ⟨rfl, rfl⟩

def followsL (k l : Int) : Bool := if k == 3 then l == 2 || l == 4 else if k == 4 then l == 2 || (l == 3 || l == 4) else l != 2 && l != 3
theorem follows_pc (k l : Int) : Pc Tryz.prog 118 [.int .i64 k, .int .i64 l] (· = .bool (followsL k l)) := by
  refine pc_intro (ct_intro Tryz.func118 rfl Tryz.ntmps118 hB118 (by simp) fun h ρ w => go (N := 33) Tryz.ntmps118 300 ?_)
  unfold followsL
  cases q3 : k == 3 with
  | true =>
    cases q : l == 2 <;>
    · simp only [go_sem, Nat.reduceAdd, Nat.reduceMul, Nat.reduceSub, Nat.reduceBEq, Nat.reduceLT, Nat.reduceLeDiff, reduceIte, reduceCtorEq, Int.reduceToNat, Int.reduceLE, Int.reduceLT, Int.reduceNe, Int.reduceMul, Int.reduceAdd, Int.reduceSub, Int.reduceDiv, Int.reduceMod, Int.reduceEq, Int.reduceGE, Int.reduceGT, Int.reduceNeg, Int.reduceBEq, Int.reduceBNe, Nat.reduceEqDiff, q3, q]
      exact aret [4] rfl ⟨rfl, rfl⟩
  | false =>
    cases q4 : k == 4 with
    | true =>
      cases q : l == 2 <;> cases q' : l == 3 <;>
      · simp only [go_sem, Nat.reduceAdd, Nat.reduceMul, Nat.reduceSub, Nat.reduceBEq, Nat.reduceLT, Nat.reduceLeDiff, reduceIte, reduceCtorEq, Int.reduceToNat, Int.reduceLE, Int.reduceLT, Int.reduceNe, Int.reduceMul, Int.reduceAdd, Int.reduceSub, Int.reduceDiv, Int.reduceMod, Int.reduceEq, Int.reduceGE, Int.reduceGT, Int.reduceNeg, Int.reduceBEq, Int.reduceBNe, Nat.reduceEqDiff, q3, q4, q, q']
        exact aret [4] rfl ⟨rfl, rfl⟩
    | false =>
      cases q : l != 2 <;>
      · simp only [go_sem, Nat.reduceAdd, Nat.reduceMul, Nat.reduceSub, Nat.reduceBEq, Nat.reduceLT, Nat.reduceLeDiff, reduceIte, reduceCtorEq, Int.reduceToNat, Int.reduceLE, Int.reduceLT, Int.reduceNe, Int.reduceMul, Int.reduceAdd, Int.reduceSub, Int.reduceDiv, Int.reduceMod, Int.reduceEq, Int.reduceGE, Int.reduceGT, Int.reduceNeg, Int.reduceBEq, Int.reduceBNe, Nat.reduceEqDiff, q3, q4, q]
        exact aret [4] rfl ⟨rfl, rfl⟩

structure Pa where
  kind : Int
  text : List UInt8
structure Sc where
  no : List UInt8
  place : Int
  set : List UInt8
  time : Int
  paras : List Pa
structure Sr where
  title : List UInt8
  scenes : List Sc
def paA (p : Pa) : AV := .agg [.int .i64 p.kind, .str p.text]
def scA (x : Sc) : AV := .agg [.str x.no, .int .i64 x.place, .str x.set, .int .i64 x.time, .fz 2 (x.paras.map paA)]
def srA (x : Sr) : AV := .agg [.str x.title, .fz 5 (x.scenes.map scA)]

def paraOk (p : Pa) : Bool := decide (1 ≤ p.kind) && (decide (p.kind ≤ 5) && (p.text != [] && (plainL p.text && (decide (p.text.length ≤ 2000) &&
  ((p.kind != 2 || nameL p.text) && ((p.kind != 3 || (decide (p.text.length ≤ 200) && !Lib.containsAny p.text [40, 41])) && (p.kind != 5 || isTurnL p.text)))))))

theorem paraFault_pch {S : Std} (hS : LibOk S) (p : Pa) (h : paraOk p = true) : PcH Tryz.prog S 117 [paA p] (· = .int .i64 0) := by
  obtain ⟨k, s⟩ := p
  simp only [paraOk, Bool.and_eq_true, decide_eq_true_eq, bne_iff_ne, ne_eq, Bool.or_eq_true, Bool.not_eq_true'] at h
  obtain ⟨h1, h2, h3, h4, h5, h6, h7, h8⟩ := h
  have e0 : (s == []) = false := by simpa using h3
  have hs : s.length < 1000000 := by omega
  have d2 : decide ((s.length : Int) > 2000) = false := by simp; omega
  have hasc : asciiL s := ascii_ok (by simp only [plainL, Bool.and_eq_true] at h4; exact h4.1)
  unfold paA
  have hk : k = 1 ∨ k = 2 ∨ k = 3 ∨ k = 4 ∨ k = 5 := by omega
  refine pch_intro (cth_intro Tryz.func117 rfl Tryz.ntmps117 hB117 (by simp) fun h ρ w hg => go (N := 66) Tryz.ntmps117 300 ?_)
  rcases hk with rfl | rfl | rfl | rfl | rfl
  · simp only [go_sem, Nat.reduceAdd, Nat.reduceMul, Nat.reduceSub, Nat.reduceBEq, Nat.reduceLT, Nat.reduceLeDiff, reduceIte, reduceCtorEq, Int.reduceToNat, Int.reduceLE, Int.reduceLT, Int.reduceNe, Int.reduceMul, Int.reduceAdd, Int.reduceSub, Int.reduceDiv, Int.reduceMod, Int.reduceEq, Int.reduceGE, Int.reduceGT, Int.reduceNeg, Int.reduceBEq, Int.reduceBNe, Nat.reduceEqDiff, e0, d2]
    refine pcallH1 hg (plain_pch hS s hs) rfl (N := 66) Tryz.ntmps117 rfl (go (N := 66) Tryz.ntmps117 300 ?_)
    rw [h4]
    simp only [go_sem, Nat.reduceAdd, Nat.reduceMul, Nat.reduceSub, Nat.reduceBEq, Nat.reduceLT, Nat.reduceLeDiff, reduceIte, reduceCtorEq, Int.reduceToNat, Int.reduceLE, Int.reduceLT, Int.reduceNe, Int.reduceMul, Int.reduceAdd, Int.reduceSub, Int.reduceDiv, Int.reduceMod, Int.reduceEq, Int.reduceGE, Int.reduceGT, Int.reduceNeg, Int.reduceBEq, Int.reduceBNe, Nat.reduceEqDiff, e0, d2]
    exact aret [2] rfl ⟨rfl, rfl⟩
  · simp only [go_sem, Nat.reduceAdd, Nat.reduceMul, Nat.reduceSub, Nat.reduceBEq, Nat.reduceLT, Nat.reduceLeDiff, reduceIte, reduceCtorEq, Int.reduceToNat, Int.reduceLE, Int.reduceLT, Int.reduceNe, Int.reduceMul, Int.reduceAdd, Int.reduceSub, Int.reduceDiv, Int.reduceMod, Int.reduceEq, Int.reduceGE, Int.reduceGT, Int.reduceNeg, Int.reduceBEq, Int.reduceBNe, Nat.reduceEqDiff, e0, d2]
    refine pcallH1 hg (plain_pch hS s hs) rfl (N := 66) Tryz.ntmps117 rfl (go (N := 66) Tryz.ntmps117 300 ?_)
    rw [h4]
    simp only [go_sem, Nat.reduceAdd, Nat.reduceMul, Nat.reduceSub, Nat.reduceBEq, Nat.reduceLT, Nat.reduceLeDiff, reduceIte, reduceCtorEq, Int.reduceToNat, Int.reduceLE, Int.reduceLT, Int.reduceNe, Int.reduceMul, Int.reduceAdd, Int.reduceSub, Int.reduceDiv, Int.reduceMod, Int.reduceEq, Int.reduceGE, Int.reduceGT, Int.reduceNeg, Int.reduceBEq, Int.reduceBNe, Nat.reduceEqDiff, e0, d2]
    refine pcallH1 hg (isName_pch hS s hs) rfl (N := 66) Tryz.ntmps117 rfl (go (N := 66) Tryz.ntmps117 300 ?_)
    rw [h6.resolve_left (by simp)]
    simp only [go_sem, Nat.reduceAdd, Nat.reduceMul, Nat.reduceSub, Nat.reduceBEq, Nat.reduceLT, Nat.reduceLeDiff, reduceIte, reduceCtorEq, Int.reduceToNat, Int.reduceLE, Int.reduceLT, Int.reduceNe, Int.reduceMul, Int.reduceAdd, Int.reduceSub, Int.reduceDiv, Int.reduceMod, Int.reduceEq, Int.reduceGE, Int.reduceGT, Int.reduceNeg, Int.reduceBEq, Int.reduceBNe, Nat.reduceEqDiff]
    exact aret [2] rfl ⟨rfl, rfl⟩
  · have h7 := h7.resolve_left (by simp)
    have d3 : decide ((s.length : Int) > 200) = false := by simp; omega
    simp only [go_sem, Nat.reduceAdd, Nat.reduceMul, Nat.reduceSub, Nat.reduceBEq, Nat.reduceLT, Nat.reduceLeDiff, reduceIte, reduceCtorEq, Int.reduceToNat, Int.reduceLE, Int.reduceLT, Int.reduceNe, Int.reduceMul, Int.reduceAdd, Int.reduceSub, Int.reduceDiv, Int.reduceMod, Int.reduceEq, Int.reduceGE, Int.reduceGT, Int.reduceNeg, Int.reduceBEq, Int.reduceBNe, Nat.reduceEqDiff, e0, d2, d3]
    refine pcallH1 hg (plain_pch hS s hs) rfl (N := 66) Tryz.ntmps117 rfl (go (N := 66) Tryz.ntmps117 300 ?_)
    rw [h4]
    simp only [go_sem, Nat.reduceAdd, Nat.reduceMul, Nat.reduceSub, Nat.reduceBEq, Nat.reduceLT, Nat.reduceLeDiff, reduceIte, reduceCtorEq, Int.reduceToNat, Int.reduceLE, Int.reduceLT, Int.reduceNe, Int.reduceMul, Int.reduceAdd, Int.reduceSub, Int.reduceDiv, Int.reduceMod, Int.reduceEq, Int.reduceGE, Int.reduceGT, Int.reduceNeg, Int.reduceBEq, Int.reduceBNe, Nat.reduceEqDiff, e0, d2, d3]
    refine pcall1 (containsAny_pc s [40, 41] (by omega) (by decide) hasc (ascii_set rfl)) rfl (N := 66) Tryz.ntmps117 rfl (go (N := 66) Tryz.ntmps117 300 ?_)
    rw [h7.2]
    simp only [go_sem, Nat.reduceAdd, Nat.reduceMul, Nat.reduceSub, Nat.reduceBEq, Nat.reduceLT, Nat.reduceLeDiff, reduceIte, reduceCtorEq, Int.reduceToNat, Int.reduceLE, Int.reduceLT, Int.reduceNe, Int.reduceMul, Int.reduceAdd, Int.reduceSub, Int.reduceDiv, Int.reduceMod, Int.reduceEq, Int.reduceGE, Int.reduceGT, Int.reduceNeg, Int.reduceBEq, Int.reduceBNe, Nat.reduceEqDiff]
    exact aret [2] rfl ⟨rfl, rfl⟩
  · simp only [go_sem, Nat.reduceAdd, Nat.reduceMul, Nat.reduceSub, Nat.reduceBEq, Nat.reduceLT, Nat.reduceLeDiff, reduceIte, reduceCtorEq, Int.reduceToNat, Int.reduceLE, Int.reduceLT, Int.reduceNe, Int.reduceMul, Int.reduceAdd, Int.reduceSub, Int.reduceDiv, Int.reduceMod, Int.reduceEq, Int.reduceGE, Int.reduceGT, Int.reduceNeg, Int.reduceBEq, Int.reduceBNe, Nat.reduceEqDiff, e0, d2]
    refine pcallH1 hg (plain_pch hS s hs) rfl (N := 66) Tryz.ntmps117 rfl (go (N := 66) Tryz.ntmps117 300 ?_)
    rw [h4]
    simp only [go_sem, Nat.reduceAdd, Nat.reduceMul, Nat.reduceSub, Nat.reduceBEq, Nat.reduceLT, Nat.reduceLeDiff, reduceIte, reduceCtorEq, Int.reduceToNat, Int.reduceLE, Int.reduceLT, Int.reduceNe, Int.reduceMul, Int.reduceAdd, Int.reduceSub, Int.reduceDiv, Int.reduceMod, Int.reduceEq, Int.reduceGE, Int.reduceGT, Int.reduceNeg, Int.reduceBEq, Int.reduceBNe, Nat.reduceEqDiff, e0, d2]
    exact aret [2] rfl ⟨rfl, rfl⟩
  · simp only [go_sem, Nat.reduceAdd, Nat.reduceMul, Nat.reduceSub, Nat.reduceBEq, Nat.reduceLT, Nat.reduceLeDiff, reduceIte, reduceCtorEq, Int.reduceToNat, Int.reduceLE, Int.reduceLT, Int.reduceNe, Int.reduceMul, Int.reduceAdd, Int.reduceSub, Int.reduceDiv, Int.reduceMod, Int.reduceEq, Int.reduceGE, Int.reduceGT, Int.reduceNeg, Int.reduceBEq, Int.reduceBNe, Nat.reduceEqDiff, e0, d2]
    refine pcallH1 hg (plain_pch hS s hs) rfl (N := 66) Tryz.ntmps117 rfl (go (N := 66) Tryz.ntmps117 300 ?_)
    rw [h4]
    simp only [go_sem, Nat.reduceAdd, Nat.reduceMul, Nat.reduceSub, Nat.reduceBEq, Nat.reduceLT, Nat.reduceLeDiff, reduceIte, reduceCtorEq, Int.reduceToNat, Int.reduceLE, Int.reduceLT, Int.reduceNe, Int.reduceMul, Int.reduceAdd, Int.reduceSub, Int.reduceDiv, Int.reduceMod, Int.reduceEq, Int.reduceGE, Int.reduceGT, Int.reduceNeg, Int.reduceBEq, Int.reduceBNe, Nat.reduceEqDiff, e0, d2]
    refine pcall1 (isTurn_pc s hs) rfl (N := 66) Tryz.ntmps117 rfl (go (N := 66) Tryz.ntmps117 300 ?_)
    rw [h8.resolve_left (by simp)]
    simp only [go_sem, Nat.reduceAdd, Nat.reduceMul, Nat.reduceSub, Nat.reduceBEq, Nat.reduceLT, Nat.reduceLeDiff, reduceIte, reduceCtorEq, Int.reduceToNat, Int.reduceLE, Int.reduceLT, Int.reduceNe, Int.reduceMul, Int.reduceAdd, Int.reduceSub, Int.reduceDiv, Int.reduceMod, Int.reduceEq, Int.reduceGE, Int.reduceGT, Int.reduceNeg, Int.reduceBEq, Int.reduceBNe, Nat.reduceEqDiff]
    exact aret [2] rfl ⟨rfl, rfl⟩
end Go.Proofs.YtpjbbpilgfihbaaGreatDoor
/- Words of a text. Own work of this seat. -/
set_option maxRecDepth 100000
set_option linter.unusedSimpArgs false
set_option linter.unusedVariables false
namespace Go.Proofs.YtpjbbpilgfihbaaGreatDoor
open Go Go.Av Go.RowKit
attribute [local go_sem ↓] br_true br_false dbr_true dbr_false dbri_true dbri_false dbrg_true dbrg_false
attribute [local go_sem] run cont br dbr dx dxc dgrd dyld dres dcall calm fieldPlace? allHas step1 opN grdN resN condN exitN stopN exitIt dOk xop xbin xint xarith xstr xbool xpick xnot xneg xextract xpart xpartOk xindex xfieldF fieldD xnew xbox xalloc xfieldAddr xptrAddIf xindexAddr xloadC xload putCells reElem xstoreB xstore xconv xtext xlen xlen2 xcall xfill xbuild cut rep xbuildSlice xbuildSliceD isRow elemD isU8 ev evs evp Go.Av.put Go.Av.get ofConst yldD yldV notBool_undef args0 cellsOf cond_true cond_false decide_true decide_false decide_eq_true_eq decide_eq_false_iff_not List.getElem?_cons_zero List.getElem?_cons_succ List.getElem?_nil List.getD_cons_zero List.getD_cons_succ List.getD_nil List.set_cons_zero List.set_cons_succ List.length_cons List.length_nil List.cons_append List.nil_append List.append_nil List.all_cons List.all_nil List.map_cons List.map_nil List.take_succ_cons List.take_zero List.drop_succ_cons List.drop_zero Bool.and_true Bool.true_and Bool.and_self Bool.and_false Bool.false_and one Go.Av.frozen beq_self_eq_true true_and and_true forall_const false_implies implies_true and_self Option.map_some Option.map_none Nat.zero_add Nat.add_zero Nat.zero_mul Nat.mul_one Nat.one_mul Int.toNat_zero ne_eq not_false_eq_true not_true_eq_false Bool.true_eq_false Bool.false_eq_true List.toList_toArray inr Go.Av.byteOf isByte decide_eq_decide Bool.not_true Bool.not_false Bool.not_eq_true' Bool.or_true Bool.true_or Bool.or_false Bool.false_or ge_iff_le gt_iff_lt and_assoc Bool.decide_eq_true beq_iff_eq beq_eq_false_iff_ne bne_iff_ne bne_self_eq_false if_true if_false Bool.and_eq_true Bool.or_eq_true Bool.and_eq_false_imp Bool.or_eq_false_iff Bool.not_eq_false' has Option.isSome_some Option.isSome_none Int.toNat_natCast Int.cast_ofNat_Int List.length_append xapp2 xapp xappS xappD xappB notInt srcOf srcB byteAV splice' xcut xcutS xcutF xcutB xcutN xcut0 cutL loOf hiOf evo xmake zelem xmax xcopy2 xcopyS xcopyB xnil xcut3 ixOf xclear2 xclearB List.getElem?_toArray xbin2 xnileq xempty xmkmap xmput xmputB xmputF isKey keyEq mfind xbin3 xeqs xeqop eqFs bothB leafEq xlook xlookB xlookF xbytes beq_c_n beq_n_c bne_c_n bne_n_c one_nil dxi dxic dbri rix dck reader blind opOk refOk Go.Op.operands Go.Call.operands List.contains_cons List.contains_nil dxg dxgc dbrg pck putD List.lookup_cons List.lookup_nil ts2 tb2 zl2 za2 Tryz.underlying2 ts3 tb3 zl3 za3 Tryz.underlying3 ts4 tb4 zl4 za4 Tryz.underlying4 ts5 tb5 zl5 za5 Tryz.underlying5 ts6 tb6 zl6 za6 Tryz.underlying6 ts7 tb7 za7 Tryz.underlying7 ts8 tb8 za8 Tryz.underlying8 ts9 tb9 zl9 za9 Tryz.underlying9 ts10 tb10 zl10 za10 Tryz.underlying10 ts11 tb11 zl11 za11 Tryz.underlying11 ts12 tb12 zl12 za12 Tryz.underlying12 ts13 tb13 za13 Tryz.underlying13 ts14 tb14 za14 Tryz.underlying14 ts18 tb18 za18 Tryz.underlying18 ts19 tb19 za19 Tryz.underlying19 ts21 tb21 zl21 za21 Tryz.underlying21 ts22 tb22 zl22 za22 Tryz.underlying22 ts24 tb24 za24 Tryz.underlying24 ts25 tb25 za25 Tryz.underlying25 ts27 tb27 zl27 za27 Tryz.underlying27 ts35 tb35 zl35 za35 Tryz.underlying35 ts36 tb36 za36 Tryz.underlying36 ts37 tb37 za37 Tryz.underlying37 ts39 tb39 zl39 za39 Tryz.underlying39 ts41 tb41 za41 Tryz.underlying41 ts42 tb42 za42 Tryz.underlying42 ts63 tb63 zl63 za63 Tryz.underlying63 ts64 tb64 zl64 za64 Tryz.underlying64 ts65 tb65 za65 Tryz.underlying65 ts66 tb66 za66 Tryz.underlying66 ts67 tb67 zl67 za67 Tryz.underlying67 ts69 tb69 za69 Tryz.underlying69 ts70 tb70 za70 Tryz.underlying70 ts73 tb73 za73 Tryz.underlying73 ts74 tb74 za74 Tryz.underlying74 ts75 tb75 zl75 za75 Tryz.underlying75 ts82 tb82 zl82 za82 Tryz.underlying82 ts96 tb96 za96 Tryz.underlying96 ts97 tb97 za97 Tryz.underlying97 ts103 tb103 za103 Tryz.underlying103 ts104 tb104 za104 Tryz.underlying104 ts109 tb109 zl109 za109 Tryz.underlying109 ts116 tb116 zl116 za116 Tryz.underlying116 ts117 tb117 za117 Tryz.underlying117 ts118 tb118 za118 Tryz.underlying118 ts120 tb120 zl120 za120 Tryz.underlying120 ts124 tb124 zl124 za124 Tryz.underlying124 ts126 tb126 za126 Tryz.underlying126 ts128 tb128 zl128 za128 Tryz.underlying128 ts130 tb130 za130 Tryz.underlying130 ts131 tb131 za131 Tryz.underlying131 ts153 tb153 zl153 za153 Tryz.underlying153 ts167 tb167 zl167 za167 Tryz.underlying167 ts171 tb171 zl171 za171 Tryz.underlying171 ts177 tb177 zl177 za177 Tryz.underlying177 ts183 tb183 zl183 za183 Tryz.underlying183 ts189 tb189 zl189 za189 Tryz.underlying189 ts191 tb191 zl191 za191 Tryz.underlying191 ts195 tb195 za195 Tryz.underlying195 ts196 tb196 za196 Tryz.underlying196 ts198 tb198 zl198 za198 Tryz.underlying198 ts203 tb203 Tryz.underlying203 ts209 tb209 za209 Tryz.underlying209 ts210 tb210 za210 Tryz.underlying210 ts211 tb211 Tryz.underlying211 ts216 tb216 za216 Tryz.underlying216 ts217 tb217 za217 Tryz.underlying217 ts220 tb220 Tryz.underlying220 ts225 tb225 Tryz.underlying225 ts226 tb226 Tryz.underlying226 ts227 tb227 za227 Tryz.underlying227 ts228 tb228 za228 Tryz.underlying228 ts232 tb232 zl232 za232 Tryz.underlying232 ts233 tb233 zl233 za233 Tryz.underlying233 ts235 tb235 zl235 za235 Tryz.underlying235 ts236 tb236 zl236 za236 Tryz.underlying236 ts237 tb237 za237 Tryz.underlying237 ts238 tb238 za238 Tryz.underlying238

def letB (n : Int) : Bool := capI n || (decide (n ≥ 97) && decide (n ≤ 122))
theorem isLetter_pc (n : Int) : Pc Tryz.prog 78 [.int .u8 n] (· = .bool (letB n)) := by
  refine pc_intro (ct_intro Tryz.func78 rfl Tryz.ntmps78 hB78 (by simp) fun h ρ w => go (N := 13) Tryz.ntmps78 300 ?_)
  simp only [go_sem, Nat.reduceAdd, Nat.reduceMul, Nat.reduceSub, Nat.reduceBEq, Nat.reduceLT, Nat.reduceLeDiff, reduceIte, reduceCtorEq, Int.reduceToNat, Int.reduceLE, Int.reduceLT, Int.reduceNe, Int.reduceMul, Int.reduceAdd, Int.reduceSub, Int.reduceDiv, Int.reduceMod, Int.reduceEq, Int.reduceGE, Int.reduceGT, Int.reduceNeg, Int.reduceBEq, Int.reduceBNe, Nat.reduceEqDiff]
  refine pcall1 (isCapital_pc n) rfl (N := 13) Tryz.ntmps78 rfl (go (N := 13) Tryz.ntmps78 300 ?_)
  unfold letB
  cases e : capI n with
  | true =>
    simp only [go_sem, Nat.reduceAdd, Nat.reduceMul, Nat.reduceSub, Nat.reduceBEq, Nat.reduceLT, Nat.reduceLeDiff, reduceIte, reduceCtorEq, Int.reduceToNat, Int.reduceLE, Int.reduceLT, Int.reduceNe, Int.reduceMul, Int.reduceAdd, Int.reduceSub, Int.reduceDiv, Int.reduceMod, Int.reduceEq, Int.reduceGE, Int.reduceGT, Int.reduceNeg, Int.reduceBEq, Int.reduceBNe, Nat.reduceEqDiff, e]
    exact aret [2] rfl ⟨rfl, rfl⟩
  | false =>
    cases e1 : decide (n ≥ 97) with
    | true =>
      simp only [go_sem, Nat.reduceAdd, Nat.reduceMul, Nat.reduceSub, Nat.reduceBEq, Nat.reduceLT, Nat.reduceLeDiff, reduceIte, reduceCtorEq, Int.reduceToNat, Int.reduceLE, Int.reduceLT, Int.reduceNe, Int.reduceMul, Int.reduceAdd, Int.reduceSub, Int.reduceDiv, Int.reduceMod, Int.reduceEq, Int.reduceGE, Int.reduceGT, Int.reduceNeg, Int.reduceBEq, Int.reduceBNe, Nat.reduceEqDiff, e, e1]
      exact aret [2] rfl ⟨rfl, rfl⟩
    | false =>
      simp only [go_sem, Nat.reduceAdd, Nat.reduceMul, Nat.reduceSub, Nat.reduceBEq, Nat.reduceLT, Nat.reduceLeDiff, reduceIte, reduceCtorEq, Int.reduceToNat, Int.reduceLE, Int.reduceLT, Int.reduceNe, Int.reduceMul, Int.reduceAdd, Int.reduceSub, Int.reduceDiv, Int.reduceMod, Int.reduceEq, Int.reduceGE, Int.reduceGT, Int.reduceNeg, Int.reduceBEq, Int.reduceBNe, Nat.reduceEqDiff, e, e1]
      exact aret [2] rfl ⟨rfl, rfl⟩

structure Wst where
  letters : Bool
  word : List UInt8
  out : List (List UInt8)
def lowerC (c : UInt8) : UInt8 := if capI c.toNat then c + 32 else c
def wstep (s : Wst) (c : UInt8) : Wst :=
  if letB c.toNat || digI c.toNat then ⟨true, s.word ++ [lowerC c], s.out⟩
  else if ((c.toNat : Int) == 39) then ⟨s.letters, s.word ++ [c], s.out⟩
  else ⟨false, [], if s.letters then s.out ++ [s.word] else s.out⟩
def wordsL (s : List UInt8) : List (List UInt8) := ((s ++ [32]).foldl wstep ⟨false, [], []⟩).out
theorem lower_val {c : UInt8} (h : capI c.toNat = true) : ((lowerC c).toNat : Int) = c.toNat + 32 := by
  simp only [lowerC, h, if_true]
  simp only [capI, Bool.and_eq_true, decide_eq_true_eq] at h
  rw [UInt8.toNat_add]
  have : c.toNat + (32 : UInt8).toNat = c.toNat + 32 := rfl
  omega

theorem frozen_bys (l : List UInt8) : (flat (bys l)).all Av.frozen = true := by
  induction l with
  | nil => rfl
  | cons y l ih => simpa [bys, flat, cellsOf, Av.frozen] using ih
theorem frozen_strs (l : List (List UInt8)) : (flat (l.map AV.str)).all Av.frozen = true := by
  induction l with
  | nil => rfl
  | cons y l ih => simpa [flat, cellsOf, Av.frozen] using ih
theorem low_bys (n : Nat) (l : List UInt8) : lowB n (.arr 1 (bys l)) = true := low_all (frozen_bys l)
theorem low_strs (n : Nat) (l : List (List UInt8)) : lowB n (.arr 1 (l.map .str)) = true := low_all (frozen_strs l)
theorem dry_bys (l : List UInt8) : dry (.arr 1 (bys l)) = true := frozen_bys l
theorem dry_strs (l : List (List UInt8)) : dry (.arr 1 (l.map .str)) = true := frozen_strs l

set_option maxHeartbeats 2000000 in
theorem words_pc (s : List UInt8) (hs : s.length < 1000000) : Pc Tryz.prog 47 [.str s] (· = .fz 1 ((wordsL s).map .str)) := by
  refine pc_intro (ct_intro Tryz.func47 rfl Tryz.ntmps47 hB47 (by simp) fun h ρ w => go (N := 54) Tryz.ntmps47 300 ?_)
  simp only [go_sem, Nat.reduceAdd, Nat.reduceMul, Nat.reduceSub, Nat.reduceBEq, Nat.reduceLT, Nat.reduceLeDiff, reduceIte, reduceCtorEq, Int.reduceToNat, Int.reduceLE, Int.reduceLT, Int.reduceNe, Int.reduceMul, Int.reduceAdd, Int.reduceSub, Int.reduceDiv, Int.reduceMod, Int.reduceEq, Int.reduceGE, Int.reduceGT, Int.reduceNeg, Int.reduceBEq, Int.reduceBNe, Nat.reduceEqDiff]
  repeat refine And.intro (by first | omega | trivial | exact .inl trivial) ?_
  refine aloop (ι := Nat × Wst) (fun y => s.length + 1 - y.1)
    (fun y => [(12, .int .i64 y.1), (11, .int .i64 (s.length + 1)), (5, .sl 2 0 y.2.word.length y.2.word.length), (4, .bool y.2.letters), (3, .sl 1 0 y.2.out.length y.2.out.length), (0, .str s)])
    (fun y => [.dead, .arr 1 (y.2.out.map .str), .arr 1 (bys y.2.word)])
    (fun y => y.1 ≤ s.length + 1 ∧ y.2.word.length ≤ y.1 ∧ y.2.out.length ≤ y.1 ∧ (((s ++ [32]).drop y.1).foldl wstep y.2).out = wordsL s) (0, ⟨false, [], []⟩) ⟨by simp, by simp, by simp, rfl⟩ ?_ ?_
  · refine Shift.trans (Shift.nilsl 3 1 rfl) (Shift.trans (Shift.trim 5 (id := 0) rfl rfl rfl (Nat.le_refl _)) (Shift.weak ?_))
    simp only [wk, go_sem, Nat.reduceAdd, Nat.reduceMul, Nat.reduceSub, Nat.reduceBEq, Nat.reduceLT, Nat.reduceLeDiff, reduceIte, reduceCtorEq, Int.reduceToNat, Int.reduceLE, Int.reduceLT, Int.reduceNe, Int.reduceMul, Int.reduceAdd, Int.reduceSub, Int.reduceDiv, Int.reduceMod, Int.reduceEq, Int.reduceGE, Int.reduceGT, Int.reduceNeg, Int.reduceBEq, Int.reduceBNe, Nat.reduceEqDiff]
  · rintro ⟨i, st⟩ ⟨g1, g2, g3, g4⟩ J hJ
    simp only at g1 g2 g3 g4 hJ ⊢
    by_cases gi : i < s.length + 1
    · have di : decide ((i : Int) < (s.length : Int) + 1) = true := by simp; omega
      have hi : i < (s ++ [32]).length := by simpa using gi
      rw [List.drop_eq_getElem_cons hi, List.foldl_cons] at g4
      have hc : ∃ c : UInt8, (s ++ [32])[i] = c := ⟨_, rfl⟩
      obtain ⟨c, hc⟩ := hc
      rw [hc] at g4
      have e1 : (i : Int) + 1 = ((i + 1 : Nat) : Int) := by omega
      have app : ∀ x : UInt8, bys st.word ++ [AV.int .u8 x.toNat] = bys (st.word ++ [x]) := fun x => by simp [bys]
      have appl : ∀ x : UInt8, st.word.length + 1 = (st.word ++ [x]).length := fun x => by simp
      have apo : List.map AV.str st.out ++ [AV.str st.word] = List.map AV.str (st.out ++ [st.word]) := by simp
      have apol : st.out.length + 1 = (st.out ++ [st.word]).length := by simp
      by_cases hlt : i < s.length
      · have d2 : decide ((i : Int) < (s.length : Int)) = true := by simp; omega
        have hgd : s.getD i 0 = c := by rw [← hc]; simp [List.getD, hlt, List.getElem_append_left]
        refine go (N := 54) Tryz.ntmps47 300 ?_
        simp only [go_sem, Nat.reduceAdd, Nat.reduceMul, Nat.reduceSub, Nat.reduceBEq, Nat.reduceLT, Nat.reduceLeDiff, reduceIte, reduceCtorEq, Int.reduceToNat, Int.reduceLE, Int.reduceLT, Int.reduceNe, Int.reduceMul, Int.reduceAdd, Int.reduceSub, Int.reduceDiv, Int.reduceMod, Int.reduceEq, Int.reduceGE, Int.reduceGT, Int.reduceNeg, Int.reduceBEq, Int.reduceBNe, Nat.reduceEqDiff, di, d2, hgd]
        repeat refine And.intro (by first | omega | simpa using hlt) ?_
        refine pcall1 (isLetter_pc _) rfl (N := 54) Tryz.ntmps47 rfl (go (N := 54) Tryz.ntmps47 300 ?_)
        cases q1 : letB c.toNat with
        | true =>
          simp only [go_sem, Nat.reduceAdd, Nat.reduceMul, Nat.reduceSub, Nat.reduceBEq, Nat.reduceLT, Nat.reduceLeDiff, reduceIte, reduceCtorEq, Int.reduceToNat, Int.reduceLE, Int.reduceLT, Int.reduceNe, Int.reduceMul, Int.reduceAdd, Int.reduceSub, Int.reduceDiv, Int.reduceMod, Int.reduceEq, Int.reduceGE, Int.reduceGT, Int.reduceNeg, Int.reduceBEq, Int.reduceBNe, Nat.reduceEqDiff]
          refine pcall1 (isCapital_pc _) rfl (N := 54) Tryz.ntmps47 rfl (go (N := 54) Tryz.ntmps47 300 ?_)
          cases q2 : capI c.toNat with
          | true =>
            have hv := lower_val q2
            have hw : wstep st c = ⟨true, st.word ++ [lowerC c], st.out⟩ := by simp [wstep, q1]
            have hub := (lowerC c).toNat_lt
            simp only [go_sem, Nat.reduceAdd, Nat.reduceMul, Nat.reduceSub, Nat.reduceBEq, Nat.reduceLT, Nat.reduceLeDiff, reduceIte, reduceCtorEq, Int.reduceToNat, Int.reduceLE, Int.reduceLT, Int.reduceNe, Int.reduceMul, Int.reduceAdd, Int.reduceSub, Int.reduceDiv, Int.reduceMod, Int.reduceEq, Int.reduceGE, Int.reduceGT, Int.reduceNeg, Int.reduceBEq, Int.reduceBNe, Nat.reduceEqDiff]
            rw [← hv]
            repeat refine And.intro (by first | omega | exact .inl trivial | (simp; done) | (simp; omega)) ?_
            rw [app, appl (lowerC c), e1]
            refine ainv (hJ (i + 1, ⟨true, st.word ++ [(lowerC c)], st.out⟩) ⟨by simp only; omega, by simp; omega, by simp only; omega, by rw [hw] at g4; exact g4⟩ (by simp only; omega)) (Shift.low 3 (by simp) (by simp) ?_ ?_)
            · simp only [List.take_succ_cons, List.take_zero, List.all_cons, List.all_nil, ↓low_bys, ↓low_strs, lowB, Bool.and_self]
            · simp only [wkl, lowV, lowC, Av.get, go_sem, Nat.reduceAdd, Nat.reduceMul, Nat.reduceSub, Nat.reduceBEq, Nat.reduceLT, Nat.reduceLeDiff, reduceIte, reduceCtorEq, Int.reduceToNat, Int.reduceLE, Int.reduceLT, Int.reduceNe, Int.reduceMul, Int.reduceAdd, Int.reduceSub, Int.reduceDiv, Int.reduceMod, Int.reduceEq, Int.reduceGE, Int.reduceGT, Int.reduceNeg, Int.reduceBEq, Int.reduceBNe, Nat.reduceEqDiff]
          | false =>
            have hv : lowerC c = c := by simp [lowerC, q2]
            have hw : wstep st c = ⟨true, st.word ++ [c], st.out⟩ := by simp [wstep, q1, hv]
            simp only [go_sem, Nat.reduceAdd, Nat.reduceMul, Nat.reduceSub, Nat.reduceBEq, Nat.reduceLT, Nat.reduceLeDiff, reduceIte, reduceCtorEq, Int.reduceToNat, Int.reduceLE, Int.reduceLT, Int.reduceNe, Int.reduceMul, Int.reduceAdd, Int.reduceSub, Int.reduceDiv, Int.reduceMod, Int.reduceEq, Int.reduceGE, Int.reduceGT, Int.reduceNeg, Int.reduceBEq, Int.reduceBNe, Nat.reduceEqDiff]
            repeat refine And.intro (by first | omega | exact .inl trivial | (simp; done) | (simp; omega)) ?_
            rw [app, appl c, e1]
            refine ainv (hJ (i + 1, ⟨true, st.word ++ [c], st.out⟩) ⟨by simp only; omega, by simp; omega, by simp only; omega, by rw [hw] at g4; exact g4⟩ (by simp only; omega)) (Shift.low 3 (by simp) (by simp) ?_ ?_)
            · simp only [List.take_succ_cons, List.take_zero, List.all_cons, List.all_nil, ↓low_bys, ↓low_strs, lowB, Bool.and_self]
            · simp only [wkl, lowV, lowC, Av.get, go_sem, Nat.reduceAdd, Nat.reduceMul, Nat.reduceSub, Nat.reduceBEq, Nat.reduceLT, Nat.reduceLeDiff, reduceIte, reduceCtorEq, Int.reduceToNat, Int.reduceLE, Int.reduceLT, Int.reduceNe, Int.reduceMul, Int.reduceAdd, Int.reduceSub, Int.reduceDiv, Int.reduceMod, Int.reduceEq, Int.reduceGE, Int.reduceGT, Int.reduceNeg, Int.reduceBEq, Int.reduceBNe, Nat.reduceEqDiff]
        | false =>
          simp only [go_sem, Nat.reduceAdd, Nat.reduceMul, Nat.reduceSub, Nat.reduceBEq, Nat.reduceLT, Nat.reduceLeDiff, reduceIte, reduceCtorEq, Int.reduceToNat, Int.reduceLE, Int.reduceLT, Int.reduceNe, Int.reduceMul, Int.reduceAdd, Int.reduceSub, Int.reduceDiv, Int.reduceMod, Int.reduceEq, Int.reduceGE, Int.reduceGT, Int.reduceNeg, Int.reduceBEq, Int.reduceBNe, Nat.reduceEqDiff]
          refine pcall1 (isDigit_pc _) rfl (N := 54) Tryz.ntmps47 rfl (go (N := 54) Tryz.ntmps47 300 ?_)
          cases q3 : digI c.toNat with
          | true =>
            have q2 : capI c.toNat = false := by
              simp only [letB, Bool.or_eq_false_iff] at q1
              exact q1.1
            have hv : lowerC c = c := by simp [lowerC, q2]
            have hw : wstep st c = ⟨true, st.word ++ [c], st.out⟩ := by simp [wstep, q1, q3, hv]
            simp only [go_sem, Nat.reduceAdd, Nat.reduceMul, Nat.reduceSub, Nat.reduceBEq, Nat.reduceLT, Nat.reduceLeDiff, reduceIte, reduceCtorEq, Int.reduceToNat, Int.reduceLE, Int.reduceLT, Int.reduceNe, Int.reduceMul, Int.reduceAdd, Int.reduceSub, Int.reduceDiv, Int.reduceMod, Int.reduceEq, Int.reduceGE, Int.reduceGT, Int.reduceNeg, Int.reduceBEq, Int.reduceBNe, Nat.reduceEqDiff]
            refine pcall1 (isCapital_pc _) rfl (N := 54) Tryz.ntmps47 rfl (go (N := 54) Tryz.ntmps47 300 ?_)
            rw [q2]
            simp only [go_sem, Nat.reduceAdd, Nat.reduceMul, Nat.reduceSub, Nat.reduceBEq, Nat.reduceLT, Nat.reduceLeDiff, reduceIte, reduceCtorEq, Int.reduceToNat, Int.reduceLE, Int.reduceLT, Int.reduceNe, Int.reduceMul, Int.reduceAdd, Int.reduceSub, Int.reduceDiv, Int.reduceMod, Int.reduceEq, Int.reduceGE, Int.reduceGT, Int.reduceNeg, Int.reduceBEq, Int.reduceBNe, Nat.reduceEqDiff]
            repeat refine And.intro (by first | omega | exact .inl trivial | (simp; done) | (simp; omega)) ?_
            rw [app, appl c, e1]
            refine ainv (hJ (i + 1, ⟨true, st.word ++ [c], st.out⟩) ⟨by simp only; omega, by simp; omega, by simp only; omega, by rw [hw] at g4; exact g4⟩ (by simp only; omega)) (Shift.low 3 (by simp) (by simp) ?_ ?_)
            · simp only [List.take_succ_cons, List.take_zero, List.all_cons, List.all_nil, ↓low_bys, ↓low_strs, lowB, Bool.and_self]
            · simp only [wkl, lowV, lowC, Av.get, go_sem, Nat.reduceAdd, Nat.reduceMul, Nat.reduceSub, Nat.reduceBEq, Nat.reduceLT, Nat.reduceLeDiff, reduceIte, reduceCtorEq, Int.reduceToNat, Int.reduceLE, Int.reduceLT, Int.reduceNe, Int.reduceMul, Int.reduceAdd, Int.reduceSub, Int.reduceDiv, Int.reduceMod, Int.reduceEq, Int.reduceGE, Int.reduceGT, Int.reduceNeg, Int.reduceBEq, Int.reduceBNe, Nat.reduceEqDiff]
          | false =>
            cases q4 : ((c.toNat : Int) == 39) with
            | true =>
              have hw : wstep st c = ⟨st.letters, st.word ++ [c], st.out⟩ := by simp [wstep, q1, q3, q4]
              simp only [go_sem, Nat.reduceAdd, Nat.reduceMul, Nat.reduceSub, Nat.reduceBEq, Nat.reduceLT, Nat.reduceLeDiff, reduceIte, reduceCtorEq, Int.reduceToNat, Int.reduceLE, Int.reduceLT, Int.reduceNe, Int.reduceMul, Int.reduceAdd, Int.reduceSub, Int.reduceDiv, Int.reduceMod, Int.reduceEq, Int.reduceGE, Int.reduceGT, Int.reduceNeg, Int.reduceBEq, Int.reduceBNe, Nat.reduceEqDiff, q4]
              repeat refine And.intro (by first | omega | exact .inl trivial | (simp; done) | (simp; omega)) ?_
              rw [app, appl c, e1]
              refine ainv (hJ (i + 1, ⟨st.letters, st.word ++ [c], st.out⟩) ⟨by simp only; omega, by simp; omega, by simp only; omega, by rw [hw] at g4; exact g4⟩ (by simp only; omega)) (Shift.low 3 (by simp) (by simp) ?_ ?_)
              · simp only [List.take_succ_cons, List.take_zero, List.all_cons, List.all_nil, ↓low_bys, ↓low_strs, lowB, Bool.and_self]
              · simp only [wkl, lowV, lowC, Av.get, go_sem, Nat.reduceAdd, Nat.reduceMul, Nat.reduceSub, Nat.reduceBEq, Nat.reduceLT, Nat.reduceLeDiff, reduceIte, reduceCtorEq, Int.reduceToNat, Int.reduceLE, Int.reduceLT, Int.reduceNe, Int.reduceMul, Int.reduceAdd, Int.reduceSub, Int.reduceDiv, Int.reduceMod, Int.reduceEq, Int.reduceGE, Int.reduceGT, Int.reduceNeg, Int.reduceBEq, Int.reduceBNe, Nat.reduceEqDiff]
            | false =>
              cases q5 : st.letters with
              | true =>
                have hw : wstep st c = ⟨false, [], st.out ++ [st.word]⟩ := by simp [wstep, q1, q3, q4, q5]
                simp only [go_sem, Nat.reduceAdd, Nat.reduceMul, Nat.reduceSub, Nat.reduceBEq, Nat.reduceLT, Nat.reduceLeDiff, reduceIte, reduceCtorEq, Int.reduceToNat, Int.reduceLE, Int.reduceLT, Int.reduceNe, Int.reduceMul, Int.reduceAdd, Int.reduceSub, Int.reduceDiv, Int.reduceMod, Int.reduceEq, Int.reduceGE, Int.reduceGT, Int.reduceNeg, Int.reduceBEq, Int.reduceBNe, Nat.reduceEqDiff, q4, q5]
                have htk : List.map Av.byteOf (List.take st.word.length (bys st.word)) = st.word := by
                  rw [List.take_of_length_le (by simp)]; exact (bys_text st.word).2
                have hall : (List.take st.word.length (bys st.word)).all isByte = true := by
                  rw [List.take_of_length_le (by simp)]; exact (bys_text st.word).1
                rw [htk, hall]
                repeat refine And.intro (by first | omega | exact .inl trivial | (simp; done) | (simp; omega)) ?_
                rw [apo, apol]
                refine adraw [] mixed (by decide) (N := 54) Tryz.ntmps47 (by decide) 100 ?_
                simp only [go_sem, Nat.reduceAdd, Nat.reduceMul, Nat.reduceSub, Nat.reduceBEq, Nat.reduceLT, Nat.reduceLeDiff, reduceIte, reduceCtorEq, Int.reduceToNat, Int.reduceLE, Int.reduceLT, Int.reduceNe, Int.reduceMul, Int.reduceAdd, Int.reduceSub, Int.reduceDiv, Int.reduceMod, Int.reduceEq, Int.reduceGE, Int.reduceGT, Int.reduceNeg, Int.reduceBEq, Int.reduceBNe, Nat.reduceEqDiff]
                repeat refine And.intro (by first | omega | exact .inl trivial | (simp; done) | (simp; omega)) ?_
                simp only [Nat.sub_zero]
                refine go (N := 54) Tryz.ntmps47 300 ?_
                simp only [go_sem, Nat.reduceAdd, Nat.reduceMul, Nat.reduceSub, Nat.reduceBEq, Nat.reduceLT, Nat.reduceLeDiff, reduceIte, reduceCtorEq, Int.reduceToNat, Int.reduceLE, Int.reduceLT, Int.reduceNe, Int.reduceMul, Int.reduceAdd, Int.reduceSub, Int.reduceDiv, Int.reduceMod, Int.reduceEq, Int.reduceGE, Int.reduceGT, Int.reduceNeg, Int.reduceBEq, Int.reduceBNe, Nat.reduceEqDiff]
                repeat refine And.intro (by first | omega | exact .inl trivial | (simp; done) | (simp; omega)) ?_
                rw [e1]
                refine ainv (hJ (i + 1, ⟨false, [], st.out ++ [st.word]⟩) ⟨by simp only; omega, by simp, by simp; omega, by rw [hw] at g4; exact g4⟩ (by simp only; omega)) (Shift.trans (Shift.trim 5 (id := 2) rfl rfl (by simp) (Nat.zero_le _)) (Shift.only 2 4 (by simp) (by simp) rfl (by simp) rfl ?_ ?_))
                · simp only [List.set_cons_succ, List.set_cons_zero, List.cons_append, List.nil_append, List.take_succ_cons, List.take_zero, List.all_cons, List.all_nil, ↓dry_strs, dry, Bool.and_self]
                · simp only [wkg, okg, Go.Av.put, Av.get, go_sem, Nat.reduceAdd, Nat.reduceMul, Nat.reduceSub, Nat.reduceBEq, Nat.reduceLT, Nat.reduceLeDiff, reduceIte, reduceCtorEq, Int.reduceToNat, Int.reduceLE, Int.reduceLT, Int.reduceNe, Int.reduceMul, Int.reduceAdd, Int.reduceSub, Int.reduceDiv, Int.reduceMod, Int.reduceEq, Int.reduceGE, Int.reduceGT, Int.reduceNeg, Int.reduceBEq, Int.reduceBNe, Nat.reduceEqDiff]
                  simp
              | false =>
                have hw : wstep st c = ⟨false, [], st.out⟩ := by simp [wstep, q1, q3, q4, q5]
                simp only [go_sem, Nat.reduceAdd, Nat.reduceMul, Nat.reduceSub, Nat.reduceBEq, Nat.reduceLT, Nat.reduceLeDiff, reduceIte, reduceCtorEq, Int.reduceToNat, Int.reduceLE, Int.reduceLT, Int.reduceNe, Int.reduceMul, Int.reduceAdd, Int.reduceSub, Int.reduceDiv, Int.reduceMod, Int.reduceEq, Int.reduceGE, Int.reduceGT, Int.reduceNeg, Int.reduceBEq, Int.reduceBNe, Nat.reduceEqDiff, q4, q5]
                refine adraw [] mixed (by decide) (N := 54) Tryz.ntmps47 (by decide) 100 ?_
                simp only [go_sem, Nat.reduceAdd, Nat.reduceMul, Nat.reduceSub, Nat.reduceBEq, Nat.reduceLT, Nat.reduceLeDiff, reduceIte, reduceCtorEq, Int.reduceToNat, Int.reduceLE, Int.reduceLT, Int.reduceNe, Int.reduceMul, Int.reduceAdd, Int.reduceSub, Int.reduceDiv, Int.reduceMod, Int.reduceEq, Int.reduceGE, Int.reduceGT, Int.reduceNeg, Int.reduceBEq, Int.reduceBNe, Nat.reduceEqDiff]
                repeat refine And.intro (by first | omega | exact .inl trivial | (simp; done) | (simp; omega)) ?_
                simp only [Nat.sub_zero]
                refine go (N := 54) Tryz.ntmps47 300 ?_
                simp only [go_sem, Nat.reduceAdd, Nat.reduceMul, Nat.reduceSub, Nat.reduceBEq, Nat.reduceLT, Nat.reduceLeDiff, reduceIte, reduceCtorEq, Int.reduceToNat, Int.reduceLE, Int.reduceLT, Int.reduceNe, Int.reduceMul, Int.reduceAdd, Int.reduceSub, Int.reduceDiv, Int.reduceMod, Int.reduceEq, Int.reduceGE, Int.reduceGT, Int.reduceNeg, Int.reduceBEq, Int.reduceBNe, Nat.reduceEqDiff]
                repeat refine And.intro (by first | omega | exact .inl trivial | (simp; done) | (simp; omega)) ?_
                rw [e1]
                refine ainv (hJ (i + 1, ⟨false, [], st.out⟩) ⟨by simp only; omega, by simp, by simp; omega, by rw [hw] at g4; exact g4⟩ (by simp only; omega)) (Shift.trans (Shift.trim 5 (id := 2) rfl rfl (by simp) (Nat.zero_le _)) (Shift.only 2 3 (by simp) (by simp) rfl (by simp) rfl ?_ ?_))
                · simp only [List.set_cons_succ, List.set_cons_zero, List.cons_append, List.nil_append, List.take_succ_cons, List.take_zero, List.all_cons, List.all_nil, ↓dry_strs, dry, Bool.and_self]
                · simp only [wkg, okg, Go.Av.put, Av.get, go_sem, Nat.reduceAdd, Nat.reduceMul, Nat.reduceSub, Nat.reduceBEq, Nat.reduceLT, Nat.reduceLeDiff, reduceIte, reduceCtorEq, Int.reduceToNat, Int.reduceLE, Int.reduceLT, Int.reduceNe, Int.reduceMul, Int.reduceAdd, Int.reduceSub, Int.reduceDiv, Int.reduceMod, Int.reduceEq, Int.reduceGE, Int.reduceGT, Int.reduceNeg, Int.reduceBEq, Int.reduceBNe, Nat.reduceEqDiff]
                  simp
      · have d2 : decide ((i : Int) < (s.length : Int)) = false := by simp; omega
        have hc32 : c = 32 := by rw [← hc]; rw [List.getElem_append_right (by omega)]; simp
        subst hc32
        refine go (N := 54) Tryz.ntmps47 300 ?_
        simp only [go_sem, Nat.reduceAdd, Nat.reduceMul, Nat.reduceSub, Nat.reduceBEq, Nat.reduceLT, Nat.reduceLeDiff, reduceIte, reduceCtorEq, Int.reduceToNat, Int.reduceLE, Int.reduceLT, Int.reduceNe, Int.reduceMul, Int.reduceAdd, Int.reduceSub, Int.reduceDiv, Int.reduceMod, Int.reduceEq, Int.reduceGE, Int.reduceGT, Int.reduceNeg, Int.reduceBEq, Int.reduceBNe, Nat.reduceEqDiff, di, d2]
        refine pcall1 (isLetter_pc 32) rfl (N := 54) Tryz.ntmps47 rfl (go (N := 54) Tryz.ntmps47 300 ?_)
        rw [show letB 32 = false from rfl]
        simp only [go_sem, Nat.reduceAdd, Nat.reduceMul, Nat.reduceSub, Nat.reduceBEq, Nat.reduceLT, Nat.reduceLeDiff, reduceIte, reduceCtorEq, Int.reduceToNat, Int.reduceLE, Int.reduceLT, Int.reduceNe, Int.reduceMul, Int.reduceAdd, Int.reduceSub, Int.reduceDiv, Int.reduceMod, Int.reduceEq, Int.reduceGE, Int.reduceGT, Int.reduceNeg, Int.reduceBEq, Int.reduceBNe, Nat.reduceEqDiff]
        refine pcall1 (isDigit_pc 32) rfl (N := 54) Tryz.ntmps47 rfl (go (N := 54) Tryz.ntmps47 300 ?_)
        rw [show digI 32 = false from rfl]
        cases q5 : st.letters with
        | true =>
          have hw : wstep st 32 = ⟨false, [], st.out ++ [st.word]⟩ := by
            have : letB ((32 : UInt8).toNat : Int) = false := rfl
            have : digI ((32 : UInt8).toNat : Int) = false := rfl
            simp_all [wstep]
          simp only [go_sem, Nat.reduceAdd, Nat.reduceMul, Nat.reduceSub, Nat.reduceBEq, Nat.reduceLT, Nat.reduceLeDiff, reduceIte, reduceCtorEq, Int.reduceToNat, Int.reduceLE, Int.reduceLT, Int.reduceNe, Int.reduceMul, Int.reduceAdd, Int.reduceSub, Int.reduceDiv, Int.reduceMod, Int.reduceEq, Int.reduceGE, Int.reduceGT, Int.reduceNeg, Int.reduceBEq, Int.reduceBNe, Nat.reduceEqDiff, q5]
          have htk : List.map Av.byteOf (List.take st.word.length (bys st.word)) = st.word := by
            rw [List.take_of_length_le (by simp)]; exact (bys_text st.word).2
          have hall : (List.take st.word.length (bys st.word)).all isByte = true := by
            rw [List.take_of_length_le (by simp)]; exact (bys_text st.word).1
          rw [htk, hall]
          repeat refine And.intro (by first | omega | exact .inl trivial | (simp; done) | (simp; omega)) ?_
          rw [apo, apol]
          refine adraw [] mixed (by decide) (N := 54) Tryz.ntmps47 (by decide) 100 ?_
          simp only [go_sem, Nat.reduceAdd, Nat.reduceMul, Nat.reduceSub, Nat.reduceBEq, Nat.reduceLT, Nat.reduceLeDiff, reduceIte, reduceCtorEq, Int.reduceToNat, Int.reduceLE, Int.reduceLT, Int.reduceNe, Int.reduceMul, Int.reduceAdd, Int.reduceSub, Int.reduceDiv, Int.reduceMod, Int.reduceEq, Int.reduceGE, Int.reduceGT, Int.reduceNeg, Int.reduceBEq, Int.reduceBNe, Nat.reduceEqDiff]
          repeat refine And.intro (by first | omega | exact .inl trivial | (simp; done) | (simp; omega)) ?_
          simp only [Nat.sub_zero]
          refine go (N := 54) Tryz.ntmps47 300 ?_
          simp only [go_sem, Nat.reduceAdd, Nat.reduceMul, Nat.reduceSub, Nat.reduceBEq, Nat.reduceLT, Nat.reduceLeDiff, reduceIte, reduceCtorEq, Int.reduceToNat, Int.reduceLE, Int.reduceLT, Int.reduceNe, Int.reduceMul, Int.reduceAdd, Int.reduceSub, Int.reduceDiv, Int.reduceMod, Int.reduceEq, Int.reduceGE, Int.reduceGT, Int.reduceNeg, Int.reduceBEq, Int.reduceBNe, Nat.reduceEqDiff]
          repeat refine And.intro (by first | omega | exact .inl trivial | (simp; done) | (simp; omega)) ?_
          rw [e1]
          refine ainv (hJ (i + 1, ⟨false, [], st.out ++ [st.word]⟩) ⟨by simp only; omega, by simp, by simp; omega, by rw [hw] at g4; exact g4⟩ (by simp only; omega)) (Shift.trans (Shift.trim 5 (id := 2) rfl rfl (by simp) (Nat.zero_le _)) (Shift.only 2 4 (by simp) (by simp) rfl (by simp) rfl ?_ ?_))
          · simp only [List.set_cons_succ, List.set_cons_zero, List.cons_append, List.nil_append, List.take_succ_cons, List.take_zero, List.all_cons, List.all_nil, ↓dry_strs, dry, Bool.and_self]
          · simp only [wkg, okg, Go.Av.put, Av.get, go_sem, Nat.reduceAdd, Nat.reduceMul, Nat.reduceSub, Nat.reduceBEq, Nat.reduceLT, Nat.reduceLeDiff, reduceIte, reduceCtorEq, Int.reduceToNat, Int.reduceLE, Int.reduceLT, Int.reduceNe, Int.reduceMul, Int.reduceAdd, Int.reduceSub, Int.reduceDiv, Int.reduceMod, Int.reduceEq, Int.reduceGE, Int.reduceGT, Int.reduceNeg, Int.reduceBEq, Int.reduceBNe, Nat.reduceEqDiff]
            simp
        | false =>
          have hw : wstep st 32 = ⟨false, [], st.out⟩ := by
            have : letB ((32 : UInt8).toNat : Int) = false := rfl
            have : digI ((32 : UInt8).toNat : Int) = false := rfl
            simp_all [wstep]
          simp only [go_sem, Nat.reduceAdd, Nat.reduceMul, Nat.reduceSub, Nat.reduceBEq, Nat.reduceLT, Nat.reduceLeDiff, reduceIte, reduceCtorEq, Int.reduceToNat, Int.reduceLE, Int.reduceLT, Int.reduceNe, Int.reduceMul, Int.reduceAdd, Int.reduceSub, Int.reduceDiv, Int.reduceMod, Int.reduceEq, Int.reduceGE, Int.reduceGT, Int.reduceNeg, Int.reduceBEq, Int.reduceBNe, Nat.reduceEqDiff, q5]
          refine adraw [] mixed (by decide) (N := 54) Tryz.ntmps47 (by decide) 100 ?_
          simp only [go_sem, Nat.reduceAdd, Nat.reduceMul, Nat.reduceSub, Nat.reduceBEq, Nat.reduceLT, Nat.reduceLeDiff, reduceIte, reduceCtorEq, Int.reduceToNat, Int.reduceLE, Int.reduceLT, Int.reduceNe, Int.reduceMul, Int.reduceAdd, Int.reduceSub, Int.reduceDiv, Int.reduceMod, Int.reduceEq, Int.reduceGE, Int.reduceGT, Int.reduceNeg, Int.reduceBEq, Int.reduceBNe, Nat.reduceEqDiff]
          repeat refine And.intro (by first | omega | exact .inl trivial | (simp; done) | (simp; omega)) ?_
          simp only [Nat.sub_zero]
          refine go (N := 54) Tryz.ntmps47 300 ?_
          simp only [go_sem, Nat.reduceAdd, Nat.reduceMul, Nat.reduceSub, Nat.reduceBEq, Nat.reduceLT, Nat.reduceLeDiff, reduceIte, reduceCtorEq, Int.reduceToNat, Int.reduceLE, Int.reduceLT, Int.reduceNe, Int.reduceMul, Int.reduceAdd, Int.reduceSub, Int.reduceDiv, Int.reduceMod, Int.reduceEq, Int.reduceGE, Int.reduceGT, Int.reduceNeg, Int.reduceBEq, Int.reduceBNe, Nat.reduceEqDiff]
          repeat refine And.intro (by first | omega | exact .inl trivial | (simp; done) | (simp; omega)) ?_
          rw [e1]
          refine ainv (hJ (i + 1, ⟨false, [], st.out⟩) ⟨by simp only; omega, by simp, by simp; omega, by rw [hw] at g4; exact g4⟩ (by simp only; omega)) (Shift.trans (Shift.trim 5 (id := 2) rfl rfl (by simp) (Nat.zero_le _)) (Shift.only 2 3 (by simp) (by simp) rfl (by simp) rfl ?_ ?_))
          · simp only [List.set_cons_succ, List.set_cons_zero, List.cons_append, List.nil_append, List.take_succ_cons, List.take_zero, List.all_cons, List.all_nil, ↓dry_strs, dry, Bool.and_self]
          · simp only [wkg, okg, Go.Av.put, Av.get, go_sem, Nat.reduceAdd, Nat.reduceMul, Nat.reduceSub, Nat.reduceBEq, Nat.reduceLT, Nat.reduceLeDiff, reduceIte, reduceCtorEq, Int.reduceToNat, Int.reduceLE, Int.reduceLT, Int.reduceNe, Int.reduceMul, Int.reduceAdd, Int.reduceSub, Int.reduceDiv, Int.reduceMod, Int.reduceEq, Int.reduceGE, Int.reduceGT, Int.reduceNeg, Int.reduceBEq, Int.reduceBNe, Nat.reduceEqDiff]
            simp
    · have di : decide ((i : Int) < (s.length : Int) + 1) = false := by simp; omega
      have : i = s.length + 1 := by omega
      subst this
      rw [List.drop_of_length_le (by simp)] at g4
      have hf : ∀ l : List (List UInt8), (flat (l.map AV.str)).all Av.frozen = true := fun l => by
        induction l with
        | nil => rfl
        | cons y l ih => simpa [flat, cellsOf, Av.frozen] using ih
      refine go (N := 54) Tryz.ntmps47 300 ?_
      simp only [go_sem, Nat.reduceAdd, Nat.reduceMul, Nat.reduceSub, Nat.reduceBEq, Nat.reduceLT, Nat.reduceLeDiff, reduceIte, reduceCtorEq, Int.reduceToNat, Int.reduceLE, Int.reduceLT, Int.reduceNe, Int.reduceMul, Int.reduceAdd, Int.reduceSub, Int.reduceDiv, Int.reduceMod, Int.reduceEq, Int.reduceGE, Int.reduceGT, Int.reduceNeg, Int.reduceBEq, Int.reduceBNe, Nat.reduceEqDiff, di]
      refine ARet.shift (Shift.freeze 2 (id := 1) rfl rfl (by simp) (Nat.le_refl _) (hf _)) (aret [2] rfl ⟨?_, rfl⟩)
      rw [← g4]
      simp [resV, Av.get, Av.put, List.take_of_length_le]
end Go.Proofs.YtpjbbpilgfihbaaGreatDoor
/- Groups of paragraphs. Own work of this seat. -/
set_option maxRecDepth 100000
set_option linter.unusedSimpArgs false
set_option linter.unusedVariables false
namespace Go.Proofs.YtpjbbpilgfihbaaGreatDoor
open Go Go.Av Go.RowKit
attribute [local go_sem ↓] br_true br_false dbr_true dbr_false dbri_true dbri_false dbrg_true dbrg_false
attribute [local go_sem] run cont br dbr dx dxc dgrd dyld dres dcall calm fieldPlace? allHas step1 opN grdN resN condN exitN stopN exitIt dOk xop xbin xint xarith xstr xbool xpick xnot xneg xextract xpart xpartOk xindex xfieldF fieldD xnew xbox xalloc xfieldAddr xptrAddIf xindexAddr xloadC xload putCells reElem xstoreB xstore xconv xtext xlen xlen2 xcall xfill xbuild cut rep xbuildSlice xbuildSliceD isRow elemD isU8 ev evs evp Go.Av.put Go.Av.get ofConst yldD yldV notBool_undef args0 cellsOf cond_true cond_false decide_true decide_false decide_eq_true_eq decide_eq_false_iff_not List.getElem?_cons_zero List.getElem?_cons_succ List.getElem?_nil List.getD_cons_zero List.getD_cons_succ List.getD_nil List.set_cons_zero List.set_cons_succ List.length_cons List.length_nil List.cons_append List.nil_append List.append_nil List.all_cons List.all_nil List.map_cons List.map_nil List.take_succ_cons List.take_zero List.drop_succ_cons List.drop_zero Bool.and_true Bool.true_and Bool.and_self Bool.and_false Bool.false_and one Go.Av.frozen beq_self_eq_true true_and and_true forall_const false_implies implies_true and_self Option.map_some Option.map_none Nat.zero_add Nat.add_zero Nat.zero_mul Nat.mul_one Nat.one_mul Int.toNat_zero ne_eq not_false_eq_true not_true_eq_false Bool.true_eq_false Bool.false_eq_true List.toList_toArray inr Go.Av.byteOf isByte decide_eq_decide Bool.not_true Bool.not_false Bool.not_eq_true' Bool.or_true Bool.true_or Bool.or_false Bool.false_or ge_iff_le gt_iff_lt and_assoc Bool.decide_eq_true beq_iff_eq beq_eq_false_iff_ne bne_iff_ne bne_self_eq_false if_true if_false Bool.and_eq_true Bool.or_eq_true Bool.and_eq_false_imp Bool.or_eq_false_iff Bool.not_eq_false' has Option.isSome_some Option.isSome_none Int.toNat_natCast Int.cast_ofNat_Int List.length_append xapp2 xapp xappS xappD xappB notInt srcOf srcB byteAV splice' xcut xcutS xcutF xcutB xcutN xcut0 cutL loOf hiOf evo xmake zelem xmax xcopy2 xcopyS xcopyB xnil xcut3 ixOf xclear2 xclearB List.getElem?_toArray xbin2 xnileq xempty xmkmap xmput xmputB xmputF isKey keyEq mfind xbin3 xeqs xeqop eqFs bothB leafEq xlook xlookB xlookF xbytes beq_c_n beq_n_c bne_c_n bne_n_c one_nil dxi dxic dbri rix dck reader blind opOk refOk Go.Op.operands Go.Call.operands List.contains_cons List.contains_nil dxg dxgc dbrg pck putD List.lookup_cons List.lookup_nil ts2 tb2 zl2 za2 Tryz.underlying2 ts3 tb3 zl3 za3 Tryz.underlying3 ts4 tb4 zl4 za4 Tryz.underlying4 ts5 tb5 zl5 za5 Tryz.underlying5 ts6 tb6 zl6 za6 Tryz.underlying6 ts7 tb7 za7 Tryz.underlying7 ts8 tb8 za8 Tryz.underlying8 ts9 tb9 zl9 za9 Tryz.underlying9 ts10 tb10 zl10 za10 Tryz.underlying10 ts11 tb11 zl11 za11 Tryz.underlying11 ts12 tb12 zl12 za12 Tryz.underlying12 ts13 tb13 za13 Tryz.underlying13 ts14 tb14 za14 Tryz.underlying14 ts18 tb18 za18 Tryz.underlying18 ts19 tb19 za19 Tryz.underlying19 ts21 tb21 zl21 za21 Tryz.underlying21 ts22 tb22 zl22 za22 Tryz.underlying22 ts24 tb24 za24 Tryz.underlying24 ts25 tb25 za25 Tryz.underlying25 ts27 tb27 zl27 za27 Tryz.underlying27 ts35 tb35 zl35 za35 Tryz.underlying35 ts36 tb36 za36 Tryz.underlying36 ts37 tb37 za37 Tryz.underlying37 ts39 tb39 zl39 za39 Tryz.underlying39 ts41 tb41 za41 Tryz.underlying41 ts42 tb42 za42 Tryz.underlying42 ts63 tb63 zl63 za63 Tryz.underlying63 ts64 tb64 zl64 za64 Tryz.underlying64 ts65 tb65 za65 Tryz.underlying65 ts66 tb66 za66 Tryz.underlying66 ts67 tb67 zl67 za67 Tryz.underlying67 ts69 tb69 za69 Tryz.underlying69 ts70 tb70 za70 Tryz.underlying70 ts73 tb73 za73 Tryz.underlying73 ts74 tb74 za74 Tryz.underlying74 ts75 tb75 zl75 za75 Tryz.underlying75 ts82 tb82 zl82 za82 Tryz.underlying82 ts96 tb96 za96 Tryz.underlying96 ts97 tb97 za97 Tryz.underlying97 ts103 tb103 za103 Tryz.underlying103 ts104 tb104 za104 Tryz.underlying104 ts109 tb109 zl109 za109 Tryz.underlying109 ts116 tb116 zl116 za116 Tryz.underlying116 ts117 tb117 za117 Tryz.underlying117 ts118 tb118 za118 Tryz.underlying118 ts120 tb120 zl120 za120 Tryz.underlying120 ts124 tb124 zl124 za124 Tryz.underlying124 ts126 tb126 za126 Tryz.underlying126 ts128 tb128 zl128 za128 Tryz.underlying128 ts130 tb130 za130 Tryz.underlying130 ts131 tb131 za131 Tryz.underlying131 ts153 tb153 zl153 za153 Tryz.underlying153 ts167 tb167 zl167 za167 Tryz.underlying167 ts171 tb171 zl171 za171 Tryz.underlying171 ts177 tb177 zl177 za177 Tryz.underlying177 ts183 tb183 zl183 za183 Tryz.underlying183 ts189 tb189 zl189 za189 Tryz.underlying189 ts191 tb191 zl191 za191 Tryz.underlying191 ts195 tb195 za195 Tryz.underlying195 ts196 tb196 za196 Tryz.underlying196 ts198 tb198 zl198 za198 Tryz.underlying198 ts203 tb203 Tryz.underlying203 ts209 tb209 za209 Tryz.underlying209 ts210 tb210 za210 Tryz.underlying210 ts211 tb211 Tryz.underlying211 ts216 tb216 za216 Tryz.underlying216 ts217 tb217 za217 Tryz.underlying217 ts220 tb220 Tryz.underlying220 ts225 tb225 Tryz.underlying225 ts226 tb226 Tryz.underlying226 ts227 tb227 za227 Tryz.underlying227 ts228 tb228 za228 Tryz.underlying228 ts232 tb232 zl232 za232 Tryz.underlying232 ts233 tb233 zl233 za233 Tryz.underlying233 ts235 tb235 zl235 za235 Tryz.underlying235 ts236 tb236 zl236 za236 Tryz.underlying236 ts237 tb237 za237 Tryz.underlying237 ts238 tb238 za238 Tryz.underlying238

def gA (g : Nat × Nat) : AV := .agg [.int .i64 g.1, .int .i64 g.2]
def joins (p : Pa) : Bool := p.kind == 3 || p.kind == 4
def gstep (out : List (Nat × Nat)) (i : Nat) (p : Pa) : List (Nat × Nat) :=
  if joins p then out.set (out.length - 1) ((out.getD (out.length - 1) (0, 0)).1, i + 1) else out ++ [(i, i + 1)]
def gfold : List (Nat × Nat) → Nat → List Pa → List (Nat × Nat)
  | out, _, [] => out
  | out, i, p :: r => gfold (gstep out i p) (i + 1) r
def groupsL (ps : List Pa) : List (Nat × Nat) := gfold [] 0 ps
theorem frozen_groups (l : List (Nat × Nat)) : (flat (l.map gA)).all Av.frozen = true := by
  induction l with
  | nil => rfl
  | cons y l ih => simpa [flat, cellsOf, gA, Av.frozen] using ih
theorem gstep_len (out : List (Nat × Nat)) (i : Nat) (p : Pa) : out.length ≤ (gstep out i p).length ∧ (gstep out i p).length ≤ out.length + 1 := by
  unfold gstep
  split <;> simp

set_option maxHeartbeats 1000000 in
theorem groups_pc (ps : List Pa) (hl : ps.length < 1000000) (h0 : ∀ p, ps.head? = some p → joins p = false) : Pc Tryz.prog 83 [.fz 2 (ps.map paA)] (· = .fz 2 ((groupsL ps).map gA)) := by
  refine pc_intro (ct_intro Tryz.func83 rfl Tryz.ntmps83 hB83 (by simp) fun h ρ w => goF (N := 38) Tryz.ntmps83 300 ?_)
  simp only [go_sem, Nat.reduceAdd, Nat.reduceMul, Nat.reduceSub, Nat.reduceBEq, Nat.reduceLT, Nat.reduceLeDiff, reduceIte, reduceCtorEq, Int.reduceToNat, Int.reduceLE, Int.reduceLT, Int.reduceNe, Int.reduceMul, Int.reduceAdd, Int.reduceSub, Int.reduceDiv, Int.reduceMod, Int.reduceEq, Int.reduceGE, Int.reduceGT, Int.reduceNeg, Int.reduceBEq, Int.reduceBNe, Nat.reduceEqDiff, List.length_map]
  refine aloop (ι := Nat × List (Nat × Nat)) (fun y => ps.length - y.1)
    (fun y => [(8, .int .i64 y.1), (7, .int .i64 ps.length), (6, .fz 2 (ps.map paA)), (3, .sl 0 0 y.2.length y.2.length)])
    (fun y => [.arr 2 (y.2.map gA)]) (fun y => y.1 ≤ ps.length ∧ y.2.length ≤ y.1 ∧ (0 < y.1 → 0 < y.2.length) ∧ gfold y.2 y.1 (ps.drop y.1) = groupsL ps) (0, []) ⟨by simp, by simp, by simp, rfl⟩ ?_ ?_
  · refine Shift.trans (Shift.nilsl 3 2 rfl) (Shift.weak ?_)
    simp only [wk, go_sem, Nat.reduceAdd, Nat.reduceMul, Nat.reduceSub, Nat.reduceBEq, Nat.reduceLT, Nat.reduceLeDiff, reduceIte, reduceCtorEq, Int.reduceToNat, Int.reduceLE, Int.reduceLT, Int.reduceNe, Int.reduceMul, Int.reduceAdd, Int.reduceSub, Int.reduceDiv, Int.reduceMod, Int.reduceEq, Int.reduceGE, Int.reduceGT, Int.reduceNeg, Int.reduceBEq, Int.reduceBNe, Nat.reduceEqDiff]
  · rintro ⟨i, out⟩ ⟨g1, g2, g3, g4⟩ J hJ
    simp only at g1 g2 g3 g4 hJ ⊢
    by_cases gi : i < ps.length
    · have di : decide ((i : Int) < (ps.length : Int)) = true := by simp; omega
      have hg' : List.getD (List.map paA ps) i .any = .agg [.int .i64 ps[i].kind, .str ps[i].text] := by simp [List.getD, gi, paA]
      rw [List.drop_eq_getElem_cons gi] at g4
      simp only [gfold] at g4
      have hln := gstep_len out i ps[i]
      have fin : _ := hJ (i + 1, gstep out i ps[i]) ⟨by simp only; omega, by simp only; omega, fun _ => by
        simp only
        cases hj : joins ps[i] with
        | true =>
          have hi0 : i ≠ 0 := by
            rintro rfl
            have := h0 ps[0] (by rw [List.head?_eq_getElem?, List.getElem?_eq_getElem gi])
            rw [this] at hj; cases hj
          have := g3 (by omega)
          omega
        | false => simp [gstep, hj], g4⟩ (by simp only; omega)
      cases hj : joins ps[i] with
      | true =>
        have hi0 : 0 < i := by
          rcases Nat.eq_zero_or_pos i with h | h
          · subst h
            have := h0 ps[0] (by rw [List.head?_eq_getElem?, List.getElem?_eq_getElem gi])
            rw [this] at hj; cases hj
          · exact h
        have hpos := g3 hi0
        have hlast : List.getD (List.map gA out) ((out.length : Int) - 1).toNat .any = .agg [.int .i64 (out.getD (out.length - 1) (0, 0)).1, .int .i64 (out.getD (out.length - 1) (0, 0)).2] := by
          rw [show ((out.length : Int) - 1).toNat = out.length - 1 by omega]
          simp [List.getD, show out.length - 1 < out.length by omega, gA]
        have hk : (ps[i].kind == 3) = true ∨ ((ps[i].kind == 3) = false ∧ (ps[i].kind == 4) = true) := by
          simp only [joins, Bool.or_eq_true] at hj
          cases h : ps[i].kind == 3 with
          | true => exact .inl rfl
          | false => rw [h] at hj; exact .inr ⟨rfl, by simpa using hj⟩
        rcases hk with hk | ⟨hk, hk4⟩
        · refine goF (N := 38) Tryz.ntmps83 300 ?_
          simp only [go_sem, Nat.reduceAdd, Nat.reduceMul, Nat.reduceSub, Nat.reduceBEq, Nat.reduceLT, Nat.reduceLeDiff, reduceIte, reduceCtorEq, Int.reduceToNat, Int.reduceLE, Int.reduceLT, Int.reduceNe, Int.reduceMul, Int.reduceAdd, Int.reduceSub, Int.reduceDiv, Int.reduceMod, Int.reduceEq, Int.reduceGE, Int.reduceGT, Int.reduceNeg, Int.reduceBEq, Int.reduceBNe, Nat.reduceEqDiff, di, hg', hk, hlast]
          repeat refine And.intro (by first | omega | exact .inl trivial | (simp; done) | (simp; omega)) ?_
          have hset : (List.map gA out).set ((out.length : Int) - 1).toNat (.agg [.int .i64 (out.getD (out.length - 1) (0, 0)).1, .int .i64 ((i : Int) + 1)]) = List.map gA (gstep out i ps[i]) := by
            rw [show ((out.length : Int) - 1).toNat = out.length - 1 by omega]
            simp [gstep, hj, gA, List.map_set]
          have hlen : (gstep out i ps[i]).length = out.length := by simp [gstep, hj]
          rw [hset, show (i : Int) + 1 = ((i + 1 : Nat) : Int) by omega]
          simp only [hlen] at fin
          refine ainv fin (Shift.low 1 (by simp) (by simp) ?_ ?_)
          · have := low_all (n := 1) (frozen_groups (gstep out i ps[i]))
            simp only [List.take_succ_cons, List.take_zero, List.all_cons, List.all_nil, lowB, this, Bool.and_self]
          · simp only [wkl, lowV, lowC, Av.get, go_sem, Nat.reduceAdd, Nat.reduceMul, Nat.reduceSub, Nat.reduceBEq, Nat.reduceLT, Nat.reduceLeDiff, reduceIte, reduceCtorEq, Int.reduceToNat, Int.reduceLE, Int.reduceLT, Int.reduceNe, Int.reduceMul, Int.reduceAdd, Int.reduceSub, Int.reduceDiv, Int.reduceMod, Int.reduceEq, Int.reduceGE, Int.reduceGT, Int.reduceNeg, Int.reduceBEq, Int.reduceBNe, Nat.reduceEqDiff]
        · refine goF (N := 38) Tryz.ntmps83 300 ?_
          simp only [go_sem, Nat.reduceAdd, Nat.reduceMul, Nat.reduceSub, Nat.reduceBEq, Nat.reduceLT, Nat.reduceLeDiff, reduceIte, reduceCtorEq, Int.reduceToNat, Int.reduceLE, Int.reduceLT, Int.reduceNe, Int.reduceMul, Int.reduceAdd, Int.reduceSub, Int.reduceDiv, Int.reduceMod, Int.reduceEq, Int.reduceGE, Int.reduceGT, Int.reduceNeg, Int.reduceBEq, Int.reduceBNe, Nat.reduceEqDiff, di, hg', hk, hk4, hlast]
          repeat refine And.intro (by first | omega | exact .inl trivial | (simp; done) | (simp; omega)) ?_
          have hset : (List.map gA out).set ((out.length : Int) - 1).toNat (.agg [.int .i64 (out.getD (out.length - 1) (0, 0)).1, .int .i64 ((i : Int) + 1)]) = List.map gA (gstep out i ps[i]) := by
            rw [show ((out.length : Int) - 1).toNat = out.length - 1 by omega]
            simp [gstep, hj, gA, List.map_set]
          have hlen : (gstep out i ps[i]).length = out.length := by simp [gstep, hj]
          rw [hset, show (i : Int) + 1 = ((i + 1 : Nat) : Int) by omega]
          simp only [hlen] at fin
          refine ainv fin (Shift.low 1 (by simp) (by simp) ?_ ?_)
          · have := low_all (n := 1) (frozen_groups (gstep out i ps[i]))
            simp only [List.take_succ_cons, List.take_zero, List.all_cons, List.all_nil, lowB, this, Bool.and_self]
          · simp only [wkl, lowV, lowC, Av.get, go_sem, Nat.reduceAdd, Nat.reduceMul, Nat.reduceSub, Nat.reduceBEq, Nat.reduceLT, Nat.reduceLeDiff, reduceIte, reduceCtorEq, Int.reduceToNat, Int.reduceLE, Int.reduceLT, Int.reduceNe, Int.reduceMul, Int.reduceAdd, Int.reduceSub, Int.reduceDiv, Int.reduceMod, Int.reduceEq, Int.reduceGE, Int.reduceGT, Int.reduceNeg, Int.reduceBEq, Int.reduceBNe, Nat.reduceEqDiff]
      | false =>
        have hk : (ps[i].kind == 3) = false ∧ (ps[i].kind == 4) = false := by
          simpa [joins] using hj
        refine goF (N := 38) Tryz.ntmps83 300 ?_
        simp only [go_sem, Nat.reduceAdd, Nat.reduceMul, Nat.reduceSub, Nat.reduceBEq, Nat.reduceLT, Nat.reduceLeDiff, reduceIte, reduceCtorEq, Int.reduceToNat, Int.reduceLE, Int.reduceLT, Int.reduceNe, Int.reduceMul, Int.reduceAdd, Int.reduceSub, Int.reduceDiv, Int.reduceMod, Int.reduceEq, Int.reduceGE, Int.reduceGT, Int.reduceNeg, Int.reduceBEq, Int.reduceBNe, Nat.reduceEqDiff, di, hg', hk.1, hk.2]
        repeat refine And.intro (by first | omega | exact .inl trivial | (simp; done) | (simp; omega)) ?_
        have happ : List.map gA out ++ [.agg [.int .i64 (i : Int), .int .i64 ((i : Int) + 1)]] = List.map gA (gstep out i ps[i]) := by simp [gstep, hj, gA]
        have hlen : (gstep out i ps[i]).length = out.length + 1 := by simp [gstep, hj]
        rw [happ, show (i : Int) + 1 = ((i + 1 : Nat) : Int) by omega]
        simp only [hlen] at fin
        refine ainv fin (Shift.low 1 (by simp) (by simp) ?_ ?_)
        · have := low_all (n := 1) (frozen_groups (gstep out i ps[i]))
          simp only [List.take_succ_cons, List.take_zero, List.all_cons, List.all_nil, lowB, this, Bool.and_self]
        · simp only [wkl, lowV, lowC, Av.get, go_sem, Nat.reduceAdd, Nat.reduceMul, Nat.reduceSub, Nat.reduceBEq, Nat.reduceLT, Nat.reduceLeDiff, reduceIte, reduceCtorEq, Int.reduceToNat, Int.reduceLE, Int.reduceLT, Int.reduceNe, Int.reduceMul, Int.reduceAdd, Int.reduceSub, Int.reduceDiv, Int.reduceMod, Int.reduceEq, Int.reduceGE, Int.reduceGT, Int.reduceNeg, Int.reduceBEq, Int.reduceBNe, Nat.reduceEqDiff]
    · have di : decide ((i : Int) < (ps.length : Int)) = false := by simp; omega
      rw [List.drop_of_length_le (by omega)] at g4
      simp only [gfold] at g4
      subst g4
      refine goF (N := 38) Tryz.ntmps83 300 ?_
      simp only [go_sem, Nat.reduceAdd, Nat.reduceMul, Nat.reduceSub, Nat.reduceBEq, Nat.reduceLT, Nat.reduceLeDiff, reduceIte, reduceCtorEq, Int.reduceToNat, Int.reduceLE, Int.reduceLT, Int.reduceNe, Int.reduceMul, Int.reduceAdd, Int.reduceSub, Int.reduceDiv, Int.reduceMod, Int.reduceEq, Int.reduceGE, Int.reduceGT, Int.reduceNeg, Int.reduceBEq, Int.reduceBNe, Nat.reduceEqDiff, di]
      refine ARet.shift (Shift.freeze 2 (id := 0) rfl rfl (by simp) (Nat.le_refl _) (frozen_groups _)) (aret [2] rfl ⟨?_, rfl⟩)
      simp [resV, Av.get, Av.put, List.take_of_length_le]
end Go.Proofs.YtpjbbpilgfihbaaGreatDoor
/- Words found in others. Own work of this seat. -/
set_option maxRecDepth 100000
set_option linter.unusedSimpArgs false
set_option linter.unusedVariables false
namespace Go.Proofs.YtpjbbpilgfihbaaGreatDoor
open Go Go.Av Go.RowKit
attribute [local go_sem ↓] br_true br_false dbr_true dbr_false dbri_true dbri_false dbrg_true dbrg_false
attribute [local go_sem] run cont br dbr dx dxc dgrd dyld dres dcall calm fieldPlace? allHas step1 opN grdN resN condN exitN stopN exitIt dOk xop xbin xint xarith xstr xbool xpick xnot xneg xextract xpart xpartOk xindex xfieldF fieldD xnew xbox xalloc xfieldAddr xptrAddIf xindexAddr xloadC xload putCells reElem xstoreB xstore xconv xtext xlen xlen2 xcall xfill xbuild cut rep xbuildSlice xbuildSliceD isRow elemD isU8 ev evs evp Go.Av.put Go.Av.get ofConst yldD yldV notBool_undef args0 cellsOf cond_true cond_false decide_true decide_false decide_eq_true_eq decide_eq_false_iff_not List.getElem?_cons_zero List.getElem?_cons_succ List.getElem?_nil List.getD_cons_zero List.getD_cons_succ List.getD_nil List.set_cons_zero List.set_cons_succ List.length_cons List.length_nil List.cons_append List.nil_append List.append_nil List.all_cons List.all_nil List.map_cons List.map_nil List.take_succ_cons List.take_zero List.drop_succ_cons List.drop_zero Bool.and_true Bool.true_and Bool.and_self Bool.and_false Bool.false_and one Go.Av.frozen beq_self_eq_true true_and and_true forall_const false_implies implies_true and_self Option.map_some Option.map_none Nat.zero_add Nat.add_zero Nat.zero_mul Nat.mul_one Nat.one_mul Int.toNat_zero ne_eq not_false_eq_true not_true_eq_false Bool.true_eq_false Bool.false_eq_true List.toList_toArray inr Go.Av.byteOf isByte decide_eq_decide Bool.not_true Bool.not_false Bool.not_eq_true' Bool.or_true Bool.true_or Bool.or_false Bool.false_or ge_iff_le gt_iff_lt and_assoc Bool.decide_eq_true beq_iff_eq beq_eq_false_iff_ne bne_iff_ne bne_self_eq_false if_true if_false Bool.and_eq_true Bool.or_eq_true Bool.and_eq_false_imp Bool.or_eq_false_iff Bool.not_eq_false' has Option.isSome_some Option.isSome_none Int.toNat_natCast Int.cast_ofNat_Int List.length_append xapp2 xapp xappS xappD xappB notInt srcOf srcB byteAV splice' xcut xcutS xcutF xcutB xcutN xcut0 cutL loOf hiOf evo xmake zelem xmax xcopy2 xcopyS xcopyB xnil xcut3 ixOf xclear2 xclearB List.getElem?_toArray xbin2 xnileq xempty xmkmap xmput xmputB xmputF isKey keyEq mfind xbin3 xeqs xeqop eqFs bothB leafEq xlook xlookB xlookF xbytes beq_c_n beq_n_c bne_c_n bne_n_c one_nil dxi dxic dbri rix dck reader blind opOk refOk Go.Op.operands Go.Call.operands List.contains_cons List.contains_nil dxg dxgc dbrg pck putD List.lookup_cons List.lookup_nil ts2 tb2 zl2 za2 Tryz.underlying2 ts3 tb3 zl3 za3 Tryz.underlying3 ts4 tb4 zl4 za4 Tryz.underlying4 ts5 tb5 zl5 za5 Tryz.underlying5 ts6 tb6 zl6 za6 Tryz.underlying6 ts7 tb7 za7 Tryz.underlying7 ts8 tb8 za8 Tryz.underlying8 ts9 tb9 zl9 za9 Tryz.underlying9 ts10 tb10 zl10 za10 Tryz.underlying10 ts11 tb11 zl11 za11 Tryz.underlying11 ts12 tb12 zl12 za12 Tryz.underlying12 ts13 tb13 za13 Tryz.underlying13 ts14 tb14 za14 Tryz.underlying14 ts18 tb18 za18 Tryz.underlying18 ts19 tb19 za19 Tryz.underlying19 ts21 tb21 zl21 za21 Tryz.underlying21 ts22 tb22 zl22 za22 Tryz.underlying22 ts24 tb24 za24 Tryz.underlying24 ts25 tb25 za25 Tryz.underlying25 ts27 tb27 zl27 za27 Tryz.underlying27 ts35 tb35 zl35 za35 Tryz.underlying35 ts36 tb36 za36 Tryz.underlying36 ts37 tb37 za37 Tryz.underlying37 ts39 tb39 zl39 za39 Tryz.underlying39 ts41 tb41 za41 Tryz.underlying41 ts42 tb42 za42 Tryz.underlying42 ts63 tb63 zl63 za63 Tryz.underlying63 ts64 tb64 zl64 za64 Tryz.underlying64 ts65 tb65 za65 Tryz.underlying65 ts66 tb66 za66 Tryz.underlying66 ts67 tb67 zl67 za67 Tryz.underlying67 ts69 tb69 za69 Tryz.underlying69 ts70 tb70 za70 Tryz.underlying70 ts73 tb73 za73 Tryz.underlying73 ts74 tb74 za74 Tryz.underlying74 ts75 tb75 zl75 za75 Tryz.underlying75 ts82 tb82 zl82 za82 Tryz.underlying82 ts96 tb96 za96 Tryz.underlying96 ts97 tb97 za97 Tryz.underlying97 ts103 tb103 za103 Tryz.underlying103 ts104 tb104 za104 Tryz.underlying104 ts109 tb109 zl109 za109 Tryz.underlying109 ts116 tb116 zl116 za116 Tryz.underlying116 ts117 tb117 za117 Tryz.underlying117 ts118 tb118 za118 Tryz.underlying118 ts120 tb120 zl120 za120 Tryz.underlying120 ts124 tb124 zl124 za124 Tryz.underlying124 ts126 tb126 za126 Tryz.underlying126 ts128 tb128 zl128 za128 Tryz.underlying128 ts130 tb130 za130 Tryz.underlying130 ts131 tb131 za131 Tryz.underlying131 ts153 tb153 zl153 za153 Tryz.underlying153 ts167 tb167 zl167 za167 Tryz.underlying167 ts171 tb171 zl171 za171 Tryz.underlying171 ts177 tb177 zl177 za177 Tryz.underlying177 ts183 tb183 zl183 za183 Tryz.underlying183 ts189 tb189 zl189 za189 Tryz.underlying189 ts191 tb191 zl191 za191 Tryz.underlying191 ts195 tb195 za195 Tryz.underlying195 ts196 tb196 za196 Tryz.underlying196 ts198 tb198 zl198 za198 Tryz.underlying198 ts203 tb203 Tryz.underlying203 ts209 tb209 za209 Tryz.underlying209 ts210 tb210 za210 Tryz.underlying210 ts211 tb211 Tryz.underlying211 ts216 tb216 za216 Tryz.underlying216 ts217 tb217 za217 Tryz.underlying217 ts220 tb220 Tryz.underlying220 ts225 tb225 Tryz.underlying225 ts226 tb226 Tryz.underlying226 ts227 tb227 za227 Tryz.underlying227 ts228 tb228 za228 Tryz.underlying228 ts232 tb232 zl232 za232 Tryz.underlying232 ts233 tb233 zl233 za233 Tryz.underlying233 ts235 tb235 zl235 za235 Tryz.underlying235 ts236 tb236 zl236 za236 Tryz.underlying236 ts237 tb237 za237 Tryz.underlying237 ts238 tb238 za238 Tryz.underlying238

theorem strs_get {l : List (List UInt8)} {i : Nat} (h : i < l.length) : List.getD (List.map AV.str l) i .any = .str l[i] := by simp [List.getD, h]

theorem eq_strs_pc (a b : List (List UInt8)) (ha : a.length < 10000000) (hb : b.length < 10000000) : Pc Tryz.prog 123 [.fz 1 (a.map .str), .fz 1 (b.map .str)] (· = .bool (a == b)) := by
  by_cases hl : a.length = b.length
  · have d0 : ((a.length : Int) != (b.length : Int)) = false := by simp [hl]
    refine pc_intro (ct_intro Tryz.func123 rfl Tryz.ntmps123 hB123 (by simp) fun h ρ w => go (N := 26) Tryz.ntmps123 300 ?_)
    simp only [go_sem, Nat.reduceAdd, Nat.reduceMul, Nat.reduceSub, Nat.reduceBEq, Nat.reduceLT, Nat.reduceLeDiff, reduceIte, reduceCtorEq, Int.reduceToNat, Int.reduceLE, Int.reduceLT, Int.reduceNe, Int.reduceMul, Int.reduceAdd, Int.reduceSub, Int.reduceDiv, Int.reduceMod, Int.reduceEq, Int.reduceGE, Int.reduceGT, Int.reduceNeg, Int.reduceBEq, Int.reduceBNe, Nat.reduceEqDiff, d0, List.length_map]
    refine aloop (ι := Nat) (fun i => a.length - i) (fun i => [(13, .int .i64 i), (12, .int .i64 a.length), (1, .fz 1 (b.map .str)), (0, .fz 1 (a.map .str))]) (fun _ => []) (fun i => i ≤ a.length ∧ a.take i = b.take i) 0 (by simp) ?_ ?_
    · refine Shift.weak ?_
      simp only [wk, go_sem, Nat.reduceAdd, Nat.reduceMul, Nat.reduceSub, Nat.reduceBEq, Nat.reduceLT, Nat.reduceLeDiff, reduceIte, reduceCtorEq, Int.reduceToNat, Int.reduceLE, Int.reduceLT, Int.reduceNe, Int.reduceMul, Int.reduceAdd, Int.reduceSub, Int.reduceDiv, Int.reduceMod, Int.reduceEq, Int.reduceGE, Int.reduceGT, Int.reduceNeg, Int.reduceBEq, Int.reduceBNe, Nat.reduceEqDiff]
    · rintro i ⟨g1, g2⟩ J hJ
      by_cases gi : i < a.length
      · have di : decide ((i : Int) < (a.length : Int)) = true := by simp; omega
        have gb : i < b.length := by omega
        have h1 := strs_get gi
        have h2 := strs_get gb
        by_cases he : a[i] = b[i]
        · have de : (a[i] != b[i]) = false := by simp [he]
          refine go (N := 26) Tryz.ntmps123 300 ?_
          simp only [go_sem, Nat.reduceAdd, Nat.reduceMul, Nat.reduceSub, Nat.reduceBEq, Nat.reduceLT, Nat.reduceLeDiff, reduceIte, reduceCtorEq, Int.reduceToNat, Int.reduceLE, Int.reduceLT, Int.reduceNe, Int.reduceMul, Int.reduceAdd, Int.reduceSub, Int.reduceDiv, Int.reduceMod, Int.reduceEq, Int.reduceGE, Int.reduceGT, Int.reduceNeg, Int.reduceBEq, Int.reduceBNe, Nat.reduceEqDiff, di]
          refine adraw [] mixed (by decide) (N := 26) Tryz.ntmps123 (by decide) 100 ?_
          simp only [go_sem, Nat.reduceAdd, Nat.reduceMul, Nat.reduceSub, Nat.reduceBEq, Nat.reduceLT, Nat.reduceLeDiff, reduceIte, reduceCtorEq, Int.reduceToNat, Int.reduceLE, Int.reduceLT, Int.reduceNe, Int.reduceMul, Int.reduceAdd, Int.reduceSub, Int.reduceDiv, Int.reduceMod, Int.reduceEq, Int.reduceGE, Int.reduceGT, Int.reduceNeg, Int.reduceBEq, Int.reduceBNe, Nat.reduceEqDiff, h1, h2, de, List.length_map]
          repeat refine And.intro (by first | omega | simpa using gi | simpa using gb) ?_
          refine go (N := 26) Tryz.ntmps123 300 ?_
          simp only [go_sem, Nat.reduceAdd, Nat.reduceMul, Nat.reduceSub, Nat.reduceBEq, Nat.reduceLT, Nat.reduceLeDiff, reduceIte, reduceCtorEq, Int.reduceToNat, Int.reduceLE, Int.reduceLT, Int.reduceNe, Int.reduceMul, Int.reduceAdd, Int.reduceSub, Int.reduceDiv, Int.reduceMod, Int.reduceEq, Int.reduceGE, Int.reduceGT, Int.reduceNeg, Int.reduceBEq, Int.reduceBNe, Nat.reduceEqDiff]
          repeat refine And.intro (by omega) ?_
          rw [show (i : Int) + 1 = ((i + 1 : Nat) : Int) by omega]
          refine ainv (hJ (i + 1) ⟨by omega, by rw [List.take_succ_eq_append_getElem gi, List.take_succ_eq_append_getElem gb, g2, he]⟩ (by omega)) (Shift.weak ?_)
          simp only [wk, go_sem, Nat.reduceAdd, Nat.reduceMul, Nat.reduceSub, Nat.reduceBEq, Nat.reduceLT, Nat.reduceLeDiff, reduceIte, reduceCtorEq, Int.reduceToNat, Int.reduceLE, Int.reduceLT, Int.reduceNe, Int.reduceMul, Int.reduceAdd, Int.reduceSub, Int.reduceDiv, Int.reduceMod, Int.reduceEq, Int.reduceGE, Int.reduceGT, Int.reduceNeg, Int.reduceBEq, Int.reduceBNe, Nat.reduceEqDiff]
        · have de : (a[i] != b[i]) = true := by simp [he]
          have hab : (a == b) = false := by
            rw [beq_eq_false_iff_ne]
            rintro rfl
            exact he rfl
          refine go (N := 26) Tryz.ntmps123 300 ?_
          simp only [go_sem, Nat.reduceAdd, Nat.reduceMul, Nat.reduceSub, Nat.reduceBEq, Nat.reduceLT, Nat.reduceLeDiff, reduceIte, reduceCtorEq, Int.reduceToNat, Int.reduceLE, Int.reduceLT, Int.reduceNe, Int.reduceMul, Int.reduceAdd, Int.reduceSub, Int.reduceDiv, Int.reduceMod, Int.reduceEq, Int.reduceGE, Int.reduceGT, Int.reduceNeg, Int.reduceBEq, Int.reduceBNe, Nat.reduceEqDiff, di]
          refine adraw [] mixed (by decide) (N := 26) Tryz.ntmps123 (by decide) 100 ?_
          simp only [go_sem, Nat.reduceAdd, Nat.reduceMul, Nat.reduceSub, Nat.reduceBEq, Nat.reduceLT, Nat.reduceLeDiff, reduceIte, reduceCtorEq, Int.reduceToNat, Int.reduceLE, Int.reduceLT, Int.reduceNe, Int.reduceMul, Int.reduceAdd, Int.reduceSub, Int.reduceDiv, Int.reduceMod, Int.reduceEq, Int.reduceGE, Int.reduceGT, Int.reduceNeg, Int.reduceBEq, Int.reduceBNe, Nat.reduceEqDiff, h1, h2, de, List.length_map]
          repeat refine And.intro (by first | omega | simpa using gi | simpa using gb) ?_
          refine go (N := 26) Tryz.ntmps123 300 ?_
          simp only [go_sem, Nat.reduceAdd, Nat.reduceMul, Nat.reduceSub, Nat.reduceBEq, Nat.reduceLT, Nat.reduceLeDiff, reduceIte, reduceCtorEq, Int.reduceToNat, Int.reduceLE, Int.reduceLT, Int.reduceNe, Int.reduceMul, Int.reduceAdd, Int.reduceSub, Int.reduceDiv, Int.reduceMod, Int.reduceEq, Int.reduceGE, Int.reduceGT, Int.reduceNeg, Int.reduceBEq, Int.reduceBNe, Nat.reduceEqDiff]
          exact aret [4] rfl ⟨by rw [hab]; rfl, rfl⟩
      · have di : decide ((i : Int) < (a.length : Int)) = false := by simp; omega
        have : a = b := by
          rw [List.take_of_length_le (by omega), List.take_of_length_le (by omega)] at g2
          exact g2
        subst this
        refine go (N := 26) Tryz.ntmps123 300 ?_
        simp only [go_sem, Nat.reduceAdd, Nat.reduceMul, Nat.reduceSub, Nat.reduceBEq, Nat.reduceLT, Nat.reduceLeDiff, reduceIte, reduceCtorEq, Int.reduceToNat, Int.reduceLE, Int.reduceLT, Int.reduceNe, Int.reduceMul, Int.reduceAdd, Int.reduceSub, Int.reduceDiv, Int.reduceMod, Int.reduceEq, Int.reduceGE, Int.reduceGT, Int.reduceNeg, Int.reduceBEq, Int.reduceBNe, Nat.reduceEqDiff, di]
        exact aret [4] rfl ⟨by simp [resV, Av.get], rfl⟩
  · have d0 : ((a.length : Int) != (b.length : Int)) = true := by simp; omega
    have hab : (a == b) = false := by
      rw [beq_eq_false_iff_ne]
      rintro rfl
      exact hl rfl
    refine pc_intro (ct_intro Tryz.func123 rfl Tryz.ntmps123 hB123 (by simp) fun h ρ w => go (N := 26) Tryz.ntmps123 300 ?_)
    simp only [go_sem, Nat.reduceAdd, Nat.reduceMul, Nat.reduceSub, Nat.reduceBEq, Nat.reduceLT, Nat.reduceLeDiff, reduceIte, reduceCtorEq, Int.reduceToNat, Int.reduceLE, Int.reduceLT, Int.reduceNe, Int.reduceMul, Int.reduceAdd, Int.reduceSub, Int.reduceDiv, Int.reduceMod, Int.reduceEq, Int.reduceGE, Int.reduceGT, Int.reduceNeg, Int.reduceBEq, Int.reduceBNe, Nat.reduceEqDiff, d0, List.length_map]
    exact aret [4] rfl ⟨by rw [hab]; rfl, rfl⟩

def fTo (ws sm : List (List UInt8)) (i : Nat) : List Nat := (List.range i).filter fun k => (ws.drop k).take sm.length == sm
def natA (n : Nat) : AV := .int .i64 (n : Int)
def foundL (ws sm : List (List UInt8)) : List Nat := fTo ws sm (ws.length + 1 - sm.length)
theorem frozen_nats (l : List Nat) : (flat (l.map natA)).all Av.frozen = true := by
  induction l with
  | nil => rfl
  | cons y l ih => simpa [flat, cellsOf, natA, Av.frozen] using ih
theorem fTo_len (ws sm : List (List UInt8)) (i : Nat) : (fTo ws sm i).length ≤ i := by
  have := List.length_filter_le (fun k => (ws.drop k).take sm.length == sm) (List.range i)
  simpa [fTo] using this
theorem fTo_succ (ws sm : List (List UInt8)) (i : Nat) : fTo ws sm (i + 1) = bif ((ws.drop i).take sm.length == sm) then fTo ws sm i ++ [i] else fTo ws sm i := by
  rw [fTo, List.range_succ, List.filter_append]
  cases h : ((ws.drop i).take sm.length == sm) <;> simp [List.filter_cons, h, fTo]

theorem found_pc (ws sm : List (List UInt8)) (ha : ws.length < 1000000) (hb : sm.length < 1000000) : Pc Tryz.prog 84 [.fz 1 (ws.map .str), .fz 1 (sm.map .str)] (· = .fz 1 ((foundL ws sm).map natA)) := by
  refine pc_intro (ct_intro Tryz.func84 rfl Tryz.ntmps84 hB84 (by simp) fun h ρ w => go (N := 30) Tryz.ntmps84 300 ?_)
  simp only [go_sem, Nat.reduceAdd, Nat.reduceMul, Nat.reduceSub, Nat.reduceBEq, Nat.reduceLT, Nat.reduceLeDiff, reduceIte, reduceCtorEq, Int.reduceToNat, Int.reduceLE, Int.reduceLT, Int.reduceNe, Int.reduceMul, Int.reduceAdd, Int.reduceSub, Int.reduceDiv, Int.reduceMod, Int.reduceEq, Int.reduceGE, Int.reduceGT, Int.reduceNeg, Int.reduceBEq, Int.reduceBNe, Nat.reduceEqDiff]
  refine aloop (ι := Nat) (fun i => ws.length + 1 - sm.length - i)
    (fun i => [(6, .int .i64 i), (5, .sl 0 0 (fTo ws sm i).length (fTo ws sm i).length), (1, .fz 1 (sm.map .str)), (0, .fz 1 (ws.map .str))])
    (fun i => [.arr 1 ((fTo ws sm i).map natA)]) (fun i => i ≤ ws.length + 1 - sm.length) 0 (by simp) ?_ ?_
  · refine Shift.trans (Shift.nilsl 5 1 rfl) (Shift.weak ?_)
    have : fTo ws sm 0 = [] := rfl
    simp only [wk, go_sem, Nat.reduceAdd, Nat.reduceMul, Nat.reduceSub, Nat.reduceBEq, Nat.reduceLT, Nat.reduceLeDiff, reduceIte, reduceCtorEq, Int.reduceToNat, Int.reduceLE, Int.reduceLT, Int.reduceNe, Int.reduceMul, Int.reduceAdd, Int.reduceSub, Int.reduceDiv, Int.reduceMod, Int.reduceEq, Int.reduceGE, Int.reduceGT, Int.reduceNeg, Int.reduceBEq, Int.reduceBNe, Nat.reduceEqDiff, this]
  · intro i g1 J hJ
    have hfl := fTo_len ws sm i
    have hsu := fTo_succ ws sm i
    by_cases gi : i < ws.length + 1 - sm.length
    · have di : decide ((i : Int) + (sm.length : Int) ≤ (ws.length : Int)) = true := by simp; omega
      have htd : List.drop i (List.take ((i : Int) + (sm.length : Int)).toNat (List.map AV.str ws)) = List.map AV.str ((ws.drop i).take sm.length) := by
        rw [show ((i : Int) + (sm.length : Int)).toNat = i + sm.length by omega]
        simp [List.map_take, List.map_drop, List.drop_take]
      refine go (N := 30) Tryz.ntmps84 300 ?_
      simp only [go_sem, Nat.reduceAdd, Nat.reduceMul, Nat.reduceSub, Nat.reduceBEq, Nat.reduceLT, Nat.reduceLeDiff, reduceIte, reduceCtorEq, Int.reduceToNat, Int.reduceLE, Int.reduceLT, Int.reduceNe, Int.reduceMul, Int.reduceAdd, Int.reduceSub, Int.reduceDiv, Int.reduceMod, Int.reduceEq, Int.reduceGE, Int.reduceGT, Int.reduceNeg, Int.reduceBEq, Int.reduceBNe, Nat.reduceEqDiff, di, htd, List.length_map]
      repeat refine And.intro (by first | omega | simp) ?_
      refine pcall1 (eq_strs_pc ((ws.drop i).take sm.length) sm (by simp; omega) (by omega)) rfl (N := 30) Tryz.ntmps84 rfl (go (N := 30) Tryz.ntmps84 300 ?_)
      cases q : ((ws.drop i).take sm.length == sm) with
      | true =>
        rw [q] at hsu
        simp only [cond_true] at hsu
        simp only [go_sem, Nat.reduceAdd, Nat.reduceMul, Nat.reduceSub, Nat.reduceBEq, Nat.reduceLT, Nat.reduceLeDiff, reduceIte, reduceCtorEq, Int.reduceToNat, Int.reduceLE, Int.reduceLT, Int.reduceNe, Int.reduceMul, Int.reduceAdd, Int.reduceSub, Int.reduceDiv, Int.reduceMod, Int.reduceEq, Int.reduceGE, Int.reduceGT, Int.reduceNeg, Int.reduceBEq, Int.reduceBNe, Nat.reduceEqDiff]
        repeat refine And.intro (by first | omega | exact .inl trivial | (simp; done) | (simp; omega)) ?_
        rw [show List.map natA (fTo ws sm i) ++ [AV.int .i64 (i : Int)] = List.map natA (fTo ws sm (i + 1)) by rw [hsu]; simp [natA], show (fTo ws sm i).length + 1 = (fTo ws sm (i + 1)).length by rw [hsu]; simp, show (i : Int) + 1 = ((i + 1 : Nat) : Int) by omega]
        refine ainv (hJ (i + 1) (by omega) (by omega)) (Shift.low 1 (by simp) (by simp) ?_ ?_)
        · have := low_all (n := 1) (frozen_nats (fTo ws sm (i + 1)))
          simp only [List.take_succ_cons, List.take_zero, List.all_cons, List.all_nil, lowB, this, Bool.and_self]
        · simp only [wkl, lowV, lowC, Av.get, go_sem, Nat.reduceAdd, Nat.reduceMul, Nat.reduceSub, Nat.reduceBEq, Nat.reduceLT, Nat.reduceLeDiff, reduceIte, reduceCtorEq, Int.reduceToNat, Int.reduceLE, Int.reduceLT, Int.reduceNe, Int.reduceMul, Int.reduceAdd, Int.reduceSub, Int.reduceDiv, Int.reduceMod, Int.reduceEq, Int.reduceGE, Int.reduceGT, Int.reduceNeg, Int.reduceBEq, Int.reduceBNe, Nat.reduceEqDiff]
      | false =>
        rw [q] at hsu
        simp only [cond_false] at hsu
        simp only [go_sem, Nat.reduceAdd, Nat.reduceMul, Nat.reduceSub, Nat.reduceBEq, Nat.reduceLT, Nat.reduceLeDiff, reduceIte, reduceCtorEq, Int.reduceToNat, Int.reduceLE, Int.reduceLT, Int.reduceNe, Int.reduceMul, Int.reduceAdd, Int.reduceSub, Int.reduceDiv, Int.reduceMod, Int.reduceEq, Int.reduceGE, Int.reduceGT, Int.reduceNeg, Int.reduceBEq, Int.reduceBNe, Nat.reduceEqDiff]
        repeat refine And.intro (by first | omega | exact .inl trivial | (simp; done) | (simp; omega)) ?_
        rw [← hsu, show (i : Int) + 1 = ((i + 1 : Nat) : Int) by omega]
        refine ainv (hJ (i + 1) (by omega) (by omega)) (Shift.weak ?_)
        simp only [wk, go_sem, Nat.reduceAdd, Nat.reduceMul, Nat.reduceSub, Nat.reduceBEq, Nat.reduceLT, Nat.reduceLeDiff, reduceIte, reduceCtorEq, Int.reduceToNat, Int.reduceLE, Int.reduceLT, Int.reduceNe, Int.reduceMul, Int.reduceAdd, Int.reduceSub, Int.reduceDiv, Int.reduceMod, Int.reduceEq, Int.reduceGE, Int.reduceGT, Int.reduceNeg, Int.reduceBEq, Int.reduceBNe, Nat.reduceEqDiff]
    · have di : decide ((i : Int) + (sm.length : Int) ≤ (ws.length : Int)) = false := by simp; omega
      have hfi : fTo ws sm i = foundL ws sm := by
        rcases Nat.lt_or_ge ws.length sm.length with h | h
        · have h1 : i = 0 := by omega
          have h2 : ws.length + 1 - sm.length = 0 := by omega
          rw [foundL, h1, h2]
        · rw [foundL, show i = ws.length + 1 - sm.length by omega]
      refine go (N := 30) Tryz.ntmps84 300 ?_
      simp only [go_sem, Nat.reduceAdd, Nat.reduceMul, Nat.reduceSub, Nat.reduceBEq, Nat.reduceLT, Nat.reduceLeDiff, reduceIte, reduceCtorEq, Int.reduceToNat, Int.reduceLE, Int.reduceLT, Int.reduceNe, Int.reduceMul, Int.reduceAdd, Int.reduceSub, Int.reduceDiv, Int.reduceMod, Int.reduceEq, Int.reduceGE, Int.reduceGT, Int.reduceNeg, Int.reduceBEq, Int.reduceBNe, Nat.reduceEqDiff, di, List.length_map]
      repeat refine And.intro (by first | omega | simp) ?_
      refine ARet.shift (Shift.freeze 4 (id := 0) rfl rfl (by simp) (Nat.le_refl _) (frozen_nats _)) (aret [4] rfl ⟨?_, rfl⟩)
      rw [hfi]
      simp [resV, Av.get, Av.put, List.take_of_length_le]
end Go.Proofs.YtpjbbpilgfihbaaGreatDoor
/- The stream of numbers: one contract each. Own work of this seat. -/
namespace Go.Proofs.YtpjbbpilgfihbaaGreatDoor
open Go Go.Av Go.RowKit
attribute [local go_sem ↓] br_true br_false dbr_true dbr_false dbri_true dbri_false dbrg_true dbrg_false
attribute [local go_sem] run cont br dbr dx dxc dgrd dyld dres dcall calm fieldPlace? allHas step1 opN grdN resN condN exitN stopN exitIt dOk xop xbin xint xarith xstr xbool xpick xnot xneg xextract xpart xpartOk xindex xfieldF fieldD xnew xbox xalloc xfieldAddr xptrAddIf xindexAddr xloadC xload putCells reElem xstoreB xstore xconv xtext xlen xlen2 xcall xfill xbuild cut rep xbuildSlice xbuildSliceD isRow elemD isU8 ev evs evp Go.Av.put Go.Av.get ofConst yldD yldV notBool_undef args0 cellsOf cond_true cond_false decide_true decide_false decide_eq_true_eq decide_eq_false_iff_not List.getElem?_cons_zero List.getElem?_cons_succ List.getElem?_nil List.getD_cons_zero List.getD_cons_succ List.getD_nil List.set_cons_zero List.set_cons_succ List.length_cons List.length_nil List.cons_append List.nil_append List.append_nil List.all_cons List.all_nil List.map_cons List.map_nil List.take_succ_cons List.take_zero List.drop_succ_cons List.drop_zero Bool.and_true Bool.true_and Bool.and_self Bool.and_false Bool.false_and one Go.Av.frozen beq_self_eq_true true_and and_true forall_const false_implies implies_true and_self Option.map_some Option.map_none Nat.zero_add Nat.add_zero Nat.zero_mul Nat.mul_one Nat.one_mul Int.toNat_zero ne_eq not_false_eq_true not_true_eq_false Bool.true_eq_false Bool.false_eq_true List.toList_toArray inr Go.Av.byteOf isByte decide_eq_decide Bool.not_true Bool.not_false Bool.not_eq_true' Bool.or_true Bool.true_or Bool.or_false Bool.false_or ge_iff_le gt_iff_lt and_assoc Bool.decide_eq_true beq_iff_eq beq_eq_false_iff_ne bne_iff_ne bne_self_eq_false if_true if_false Bool.and_eq_true Bool.or_eq_true Bool.and_eq_false_imp Bool.or_eq_false_iff Bool.not_eq_false' has Option.isSome_some Option.isSome_none Int.toNat_natCast Int.cast_ofNat_Int List.length_append xapp2 xapp xappS xappD xappB notInt srcOf srcB byteAV splice' xcut xcutS xcutF xcutB xcutN xcut0 cutL loOf hiOf evo xmake zelem xmax xcopy2 xcopyS xcopyB xnil xcut3 ixOf xclear2 xclearB List.getElem?_toArray xbin2 xnileq xempty xmkmap xmput xmputB xmputF isKey keyEq mfind xbin3 xeqs xeqop eqFs bothB leafEq xlook xlookB xlookF xbytes beq_c_n beq_n_c bne_c_n bne_n_c one_nil dxi dxic dbri rix dck reader blind opOk refOk Go.Op.operands Go.Call.operands List.contains_cons List.contains_nil dxg dxgc dbrg pck putD List.lookup_cons List.lookup_nil ts2 tb2 zl2 za2 Tryz.underlying2 ts3 tb3 zl3 za3 Tryz.underlying3 ts4 tb4 zl4 za4 Tryz.underlying4 ts5 tb5 zl5 za5 Tryz.underlying5 ts6 tb6 zl6 za6 Tryz.underlying6 ts7 tb7 za7 Tryz.underlying7 ts8 tb8 za8 Tryz.underlying8 ts9 tb9 zl9 za9 Tryz.underlying9 ts10 tb10 zl10 za10 Tryz.underlying10 ts11 tb11 zl11 za11 Tryz.underlying11 ts12 tb12 zl12 za12 Tryz.underlying12 ts13 tb13 za13 Tryz.underlying13 ts14 tb14 za14 Tryz.underlying14 ts18 tb18 za18 Tryz.underlying18 ts19 tb19 za19 Tryz.underlying19 ts21 tb21 zl21 za21 Tryz.underlying21 ts22 tb22 zl22 za22 Tryz.underlying22 ts24 tb24 za24 Tryz.underlying24 ts25 tb25 za25 Tryz.underlying25 ts27 tb27 zl27 za27 Tryz.underlying27 ts35 tb35 zl35 za35 Tryz.underlying35 ts36 tb36 za36 Tryz.underlying36 ts37 tb37 za37 Tryz.underlying37 ts39 tb39 zl39 za39 Tryz.underlying39 ts41 tb41 za41 Tryz.underlying41 ts42 tb42 za42 Tryz.underlying42 ts63 tb63 zl63 za63 Tryz.underlying63 ts64 tb64 zl64 za64 Tryz.underlying64 ts65 tb65 za65 Tryz.underlying65 ts66 tb66 za66 Tryz.underlying66 ts67 tb67 zl67 za67 Tryz.underlying67 ts69 tb69 za69 Tryz.underlying69 ts70 tb70 za70 Tryz.underlying70 ts73 tb73 za73 Tryz.underlying73 ts74 tb74 za74 Tryz.underlying74 ts75 tb75 zl75 za75 Tryz.underlying75 ts82 tb82 zl82 za82 Tryz.underlying82 ts96 tb96 za96 Tryz.underlying96 ts97 tb97 za97 Tryz.underlying97 ts103 tb103 za103 Tryz.underlying103 ts104 tb104 za104 Tryz.underlying104 ts109 tb109 zl109 za109 Tryz.underlying109 ts116 tb116 zl116 za116 Tryz.underlying116 ts117 tb117 za117 Tryz.underlying117 ts118 tb118 za118 Tryz.underlying118 ts120 tb120 zl120 za120 Tryz.underlying120 ts124 tb124 zl124 za124 Tryz.underlying124 ts126 tb126 za126 Tryz.underlying126 ts128 tb128 zl128 za128 Tryz.underlying128 ts130 tb130 za130 Tryz.underlying130 ts131 tb131 za131 Tryz.underlying131 ts153 tb153 zl153 za153 Tryz.underlying153 ts167 tb167 zl167 za167 Tryz.underlying167 ts171 tb171 zl171 za171 Tryz.underlying171 ts177 tb177 zl177 za177 Tryz.underlying177 ts183 tb183 zl183 za183 Tryz.underlying183 ts189 tb189 zl189 za189 Tryz.underlying189 ts191 tb191 zl191 za191 Tryz.underlying191 ts195 tb195 za195 Tryz.underlying195 ts196 tb196 za196 Tryz.underlying196 ts198 tb198 zl198 za198 Tryz.underlying198 ts203 tb203 Tryz.underlying203 ts209 tb209 za209 Tryz.underlying209 ts210 tb210 za210 Tryz.underlying210 ts211 tb211 Tryz.underlying211 ts216 tb216 za216 Tryz.underlying216 ts217 tb217 za217 Tryz.underlying217 ts220 tb220 Tryz.underlying220 ts225 tb225 Tryz.underlying225 ts226 tb226 Tryz.underlying226 ts227 tb227 za227 Tryz.underlying227 ts228 tb228 za228 Tryz.underlying228 ts232 tb232 zl232 za232 Tryz.underlying232 ts233 tb233 zl233 za233 Tryz.underlying233 ts235 tb235 zl235 za235 Tryz.underlying235 ts236 tb236 zl236 za236 Tryz.underlying236 ts237 tb237 za237 Tryz.underlying237 ts238 tb238 za238 Tryz.underlying238
set_option maxRecDepth 100000
set_option linter.unusedSimpArgs false
set_option linter.unusedVariables false


theorem below_pc (x n : Int) (h1 : 1 ≤ n) (h2 : n ≤ 9223372036854775807) :
    Pc Tryz.prog 19 [.int .i64 x, .int .i64 n] (· = .int .i64 (x % n)) := by
  refine pc_intro (ct_intro Tryz.func19 rfl Tryz.ntmps19 hB19 (by simp) fun h ρ w => goW (N := 16) Tryz.ntmps19 200 ?_)
  have hm : x.tmod n = if 0 ≤ x ∨ n ∣ x then x % n else x % n - n.natAbs := by
    rw [Int.tmod_eq_emod]; split <;> simp
  have hlt := Int.emod_lt_of_pos x (show 0 < n by omega)
  have hge := Int.emod_nonneg x (show n ≠ 0 by omega)
  have hna : (n.natAbs : Int) = n := by omega
  rw [hna] at hm
  simp only [go_sem, Nat.reduceAdd, Nat.reduceMul, Nat.reduceSub, Nat.reduceBEq, Nat.reduceLT, Nat.reduceLeDiff, reduceIte, reduceCtorEq, Int.reduceToNat, Int.reduceLE, Int.reduceLT, Int.reduceNe, Int.reduceMul, Int.reduceAdd, Int.reduceSub, Int.reduceDiv, Int.reduceMod, Int.reduceEq, Int.reduceGE, Int.reduceGT, Int.reduceNeg, Int.reduceBEq, Int.reduceBNe, Nat.reduceEqDiff, xint]
  refine ⟨fun _ => by omega, fun _ => ⟨by omega, fun h3 => ?_, fun h3 => ?_⟩⟩
  · refine aret [4] rfl ⟨?_, rfl⟩
    show AV.int .i64 _ = _
    rw [hm] at h3 ⊢
    split at h3
    · omega
    · rw [if_neg (by assumption), show x % n - n + n = x % n by omega]
      exact congrArg _ (IntWalk.i64_in _ ⟨by omega, by omega⟩)
  · refine aret [4] rfl ⟨?_, rfl⟩
    show AV.int .i64 _ = _
    rw [hm] at h3 ⊢
    split at h3
    · rw [if_pos (by assumption)]
    · omega

/-- the stream's fields -/
def str (L : List Int) (at' : Int) : AV := .agg [.fz 1 (L.map (.int .i64)), .int .i64 at']

theorem next_mc (L : List Int) (k n : Int) (h1 : 1 ≤ n) (h2 : n ≤ 9223372036854775807) (h3 : 0 ≤ k) (h4 : k ≤ 1000000) :
    Mc Tryz.prog 53 2 (str L k) [.int .i64 n] (fun r s => (∃ v, r = .int .i64 v ∧ 0 ≤ v ∧ v < n) ∧ s = str L (k + 1)) := by
  refine ct_intro Tryz.func53 rfl Tryz.ntmps53 hB53 (by simp) fun h ρ w => goW (N := 64) Tryz.ntmps53 200 ?_
  have hw : IntKind.i64.wrap (k + 1) = k + 1 := IntWalk.i64_in _ ⟨by omega, by omega⟩
  have hk : k + 1 - 1 = k := by omega
  have hwk : IntKind.i64.wrap k = k := IntWalk.i64_in _ ⟨by omega, by omega⟩
  have fin : ∀ x : Int, 0 ≤ x % n ∧ x % n < n := fun x => ⟨Int.emod_nonneg x (by omega), Int.emod_lt_of_pos x (by omega)⟩
  simp only [go_sem, Nat.reduceAdd, Nat.reduceMul, Nat.reduceSub, Nat.reduceBEq, Nat.reduceLT, Nat.reduceLeDiff, reduceIte, reduceCtorEq, Int.reduceToNat, Int.reduceLE, Int.reduceLT, Int.reduceNe, Int.reduceMul, Int.reduceAdd, Int.reduceSub, Int.reduceDiv, Int.reduceMod, Int.reduceEq, Int.reduceGE, Int.reduceGT, Int.reduceNeg, Int.reduceBEq, Int.reduceBNe, Nat.reduceEqDiff, xint, str, hw]
  refine ⟨fun h5 => ?_, fun h5 => ?_⟩
  · refine pcall1 (below_pc _ n h1 h2) rfl (N := 64) Tryz.ntmps53 rfl (goW (N := 64) Tryz.ntmps53 200 ?_)
    simp only [go_sem, Nat.reduceAdd, Nat.reduceMul, Nat.reduceSub, Nat.reduceBEq, Nat.reduceLT, Nat.reduceLeDiff, reduceIte, reduceCtorEq, Int.reduceToNat, Int.reduceLE, Int.reduceLT, Int.reduceNe, Int.reduceMul, Int.reduceAdd, Int.reduceSub, Int.reduceDiv, Int.reduceMod, Int.reduceEq, Int.reduceGE, Int.reduceGT, Int.reduceNeg, Int.reduceBEq, Int.reduceBNe, Nat.reduceEqDiff, xint]
    exact aret [4] rfl ⟨_, _, rfl, ⟨_, rfl, fin _⟩, rfl, rfl, rfl⟩
  · refine adraw [] mixed (by decide) (N := 64) Tryz.ntmps53 (by decide) 100 ?_
    simp only [go_sem, Nat.reduceAdd, Nat.reduceMul, Nat.reduceSub, Nat.reduceBEq, Nat.reduceLT, Nat.reduceLeDiff, reduceIte, reduceCtorEq, Int.reduceToNat, Int.reduceLE, Int.reduceLT, Int.reduceNe, Int.reduceMul, Int.reduceAdd, Int.reduceSub, Int.reduceDiv, Int.reduceMod, Int.reduceEq, Int.reduceGE, Int.reduceGT, Int.reduceNeg, Int.reduceBEq, Int.reduceBNe, Nat.reduceEqDiff, xint, hw, hk, hwk]
    have hm0 : 0 < ((List.map (AV.int .i64) L).length : Int) := by omega
    have hmL : ((List.map (AV.int .i64) L).length : Int) = L.length := by simp
    generalize hM : ((List.map (AV.int .i64) L).length : Int) = M at *
    have d1 : 0 ≤ k / M := Int.ediv_nonneg h3 (by omega)
    have d2 : k / M ≤ k := Int.ediv_le_self _ h3
    have d3 : 0 ≤ k % M := Int.emod_nonneg k (by omega)
    have d4 : k % M < M := Int.emod_lt_of_pos k hm0
    have d5 : k % M ≤ k := by
      have q1 := Int.mul_ediv_add_emod k M
      have q2 : 0 ≤ M * (k / M) := Int.mul_nonneg (by omega) d1
      omega
    have d6 : 0 ≤ k / M * (7919 + k % M) := Int.mul_nonneg d1 (by omega)
    have d7 : k / M * (7919 + k % M) ≤ 1000000 * 1007919 := Int.mul_le_mul (by omega) (by omega) (by omega) (by omega)
    refine ⟨by omega, by omega, by omega, by omega, ?_⟩
    refine goW (N := 64) Tryz.ntmps53 200 ?_
    simp only [go_sem, Nat.reduceAdd, Nat.reduceMul, Nat.reduceSub, Nat.reduceBEq, Nat.reduceLT, Nat.reduceLeDiff, reduceIte, reduceCtorEq, Int.reduceToNat, Int.reduceLE, Int.reduceLT, Int.reduceNe, Int.reduceMul, Int.reduceAdd, Int.reduceSub, Int.reduceDiv, Int.reduceMod, Int.reduceEq, Int.reduceGE, Int.reduceGT, Int.reduceNeg, Int.reduceBEq, Int.reduceBNe, Nat.reduceEqDiff, xint, hw, hk, hwk, hM]
    refine adraw [] mixed (by decide) (N := 64) Tryz.ntmps53 (by decide) 100 ?_
    simp only [go_sem, Nat.reduceAdd, Nat.reduceMul, Nat.reduceSub, Nat.reduceBEq, Nat.reduceLT, Nat.reduceLeDiff, reduceIte, reduceCtorEq, Int.reduceToNat, Int.reduceLE, Int.reduceLT, Int.reduceNe, Int.reduceMul, Int.reduceAdd, Int.reduceSub, Int.reduceDiv, Int.reduceMod, Int.reduceEq, Int.reduceGE, Int.reduceGT, Int.reduceNeg, Int.reduceBEq, Int.reduceBNe, Nat.reduceEqDiff, xint, hw, hk, hwk, hM]
    refine ⟨by omega, by omega, by omega, by omega, by omega, by omega, ?_⟩
    have hx : ∃ x, (List.map (AV.int .i64) L).getD (k % M).toNat .any = .int .i64 x := by
      have : (k % M).toNat < L.length := by omega
      exact ⟨L[(k % M).toNat], by simp [List.getD, this]⟩
    obtain ⟨x, hx⟩ := hx
    have f1 : 0 ≤ x % 1073741824 := Int.emod_nonneg x (by omega)
    have f2 : x % 1073741824 < 1073741824 := Int.emod_lt_of_pos x (by omega)
    refine goW (N := 64) Tryz.ntmps53 200 ?_
    simp only [go_sem, Nat.reduceAdd, Nat.reduceMul, Nat.reduceSub, Nat.reduceBEq, Nat.reduceLT, Nat.reduceLeDiff, reduceIte, reduceCtorEq, Int.reduceToNat, Int.reduceLE, Int.reduceLT, Int.reduceNe, Int.reduceMul, Int.reduceAdd, Int.reduceSub, Int.reduceDiv, Int.reduceMod, Int.reduceEq, Int.reduceGE, Int.reduceGT, Int.reduceNeg, Int.reduceBEq, Int.reduceBNe, Nat.reduceEqDiff, xint, hw, hk, hwk, hM, hx]
    refine ⟨by omega, by omega, by simp; omega, ?_⟩
    refine pcall1 (below_pc _ _ (by omega) (by omega)) rfl (N := 64) Tryz.ntmps53 rfl (goW (N := 64) Tryz.ntmps53 200 ?_)
    simp only [go_sem, Nat.reduceAdd, Nat.reduceMul, Nat.reduceSub, Nat.reduceBEq, Nat.reduceLT, Nat.reduceLeDiff, reduceIte, reduceCtorEq, Int.reduceToNat, Int.reduceLE, Int.reduceLT, Int.reduceNe, Int.reduceMul, Int.reduceAdd, Int.reduceSub, Int.reduceDiv, Int.reduceMod, Int.reduceEq, Int.reduceGE, Int.reduceGT, Int.reduceNeg, Int.reduceBEq, Int.reduceBNe, Nat.reduceEqDiff, xint]
    refine pcall1 (below_pc _ n h1 h2) rfl (N := 64) Tryz.ntmps53 rfl (goW (N := 64) Tryz.ntmps53 200 ?_)
    simp only [go_sem, Nat.reduceAdd, Nat.reduceMul, Nat.reduceSub, Nat.reduceBEq, Nat.reduceLT, Nat.reduceLeDiff, reduceIte, reduceCtorEq, Int.reduceToNat, Int.reduceLE, Int.reduceLT, Int.reduceNe, Int.reduceMul, Int.reduceAdd, Int.reduceSub, Int.reduceDiv, Int.reduceMod, Int.reduceEq, Int.reduceGE, Int.reduceGT, Int.reduceNeg, Int.reduceBEq, Int.reduceBNe, Nat.reduceEqDiff, xint]
    exact aret [4] rfl ⟨_, _, rfl, ⟨_, rfl, fin _⟩, rfl, rfl, rfl⟩

theorem one_mc (L : List Int) (k : Int) (ls : List (List UInt8)) (h1 : 1 ≤ ls.length) (h2 : ls.length ≤ 1000) (h3 : 0 ≤ k) (h4 : k ≤ 1000000) :
    Mc Tryz.prog 23 2 (str L k) [.fz 1 (ls.map .str)] (fun r s => (∃ x ∈ ls, r = .str x) ∧ s = str L (k + 1)) := by
  refine ct_intro Tryz.func23 rfl Tryz.ntmps23 hB23 (by simp) fun h ρ w => goW (N := 12) Tryz.ntmps23 200 ?_
  simp only [go_sem, Nat.reduceAdd, Nat.reduceMul, Nat.reduceSub, Nat.reduceBEq, Nat.reduceLT, Nat.reduceLeDiff, reduceIte, reduceCtorEq, Int.reduceToNat, Int.reduceLE, Int.reduceLT, Int.reduceNe, Int.reduceMul, Int.reduceAdd, Int.reduceSub, Int.reduceDiv, Int.reduceMod, Int.reduceEq, Int.reduceGE, Int.reduceGT, Int.reduceNeg, Int.reduceBEq, Int.reduceBNe, Nat.reduceEqDiff, xint]
  have hlen : ((List.map AV.str ls).length : Int) = ls.length := by simp
  refine mcall (next_mc L k _ (by omega) (by omega) h3 h4) rfl rfl (id := 0) rfl (N := 12) Tryz.ntmps23 rfl ?_
  rintro _ _ ⟨⟨v, rfl, hv0, hv1⟩, rfl⟩
  refine goW (N := 12) Tryz.ntmps23 200 ?_
  have hv : v.toNat < ls.length := by omega
  have hx : (List.map AV.str ls).getD v.toNat .any = .str ls[v.toNat] := by simp [List.getD, hv]
  simp only [go_sem, Nat.reduceAdd, Nat.reduceMul, Nat.reduceSub, Nat.reduceBEq, Nat.reduceLT, Nat.reduceLeDiff, reduceIte, reduceCtorEq, Int.reduceToNat, Int.reduceLE, Int.reduceLT, Int.reduceNe, Int.reduceMul, Int.reduceAdd, Int.reduceSub, Int.reduceDiv, Int.reduceMod, Int.reduceEq, Int.reduceGE, Int.reduceGT, Int.reduceNeg, Int.reduceBEq, Int.reduceBNe, Nat.reduceEqDiff, xint, hx]
  refine ⟨by omega, by omega, by simpa using hv, ?_⟩
  exact aret [4] rfl ⟨_, _, rfl, ⟨_, List.getElem_mem hv, rfl⟩, rfl, rfl, rfl⟩
end Go.Proofs.YtpjbbpilgfihbaaGreatDoor
/- Texts without blanks at their ends and without two blanks next to each other: plain law. Own work of this seat. -/
set_option linter.unusedSimpArgs false
set_option linter.unusedVariables false
namespace Go.Proofs.YtpjbbpilgfihbaaGreatDoor
open Go Go.Av Go.RowKit

def noDbl : List UInt8 → Bool
  | a :: b :: r => !(a == 32 && b == 32) && noDbl (b :: r)
  | _ => true

structure TextOk (p : UInt8 → Bool) (t : List UInt8) : Prop where
  ne : t ≠ []
  all : t.all p = true
  dbl : noDbl t = true
  hd : t.head? ≠ some 32
  lst : t.getLast? ≠ some 32

theorem index_dbl : ∀ t : List UInt8, noDbl t = true → Lib.index t [32, 32] = -1
  | [], _ => rfl
  | [a], _ => by
    have h : ([32, 32] : List UInt8).isPrefixOf [a] = false := by simp [List.isPrefixOf]
    simp only [Lib.index, h, if_false, Bool.false_eq_true]
    rfl
  | a :: b :: r, h => by
    simp only [noDbl, Bool.and_eq_true, Bool.not_eq_true'] at h
    have h1 : ([32, 32] : List UInt8).isPrefixOf (a :: b :: r) = false := by
      cases hq : ([32, 32] : List UInt8).isPrefixOf (a :: b :: r) with
      | false => rfl
      | true =>
        simp [List.isPrefixOf] at hq
        obtain ⟨rfl, rfl⟩ := hq
        simp at h
    rw [Lib.index]
    simp only [h1, Bool.false_eq_true, if_false]
    rw [index_dbl (b :: r) h.2]
    rfl

theorem pre_blank {t : List UInt8} (h : t.head? ≠ some 32) : Lib.hasPrefix t [32] = false := by
  cases t with
  | nil => rfl
  | cons a r =>
    simp only [Lib.hasPrefix, List.isPrefixOf, Bool.and_true]
    simp at h
    simpa using fun e => h e.symm
theorem suf_blank {t : List UInt8} (h : t.getLast? ≠ some 32) : Lib.hasSuffix t [32] = false := by
  unfold Lib.hasSuffix
  cases hq : ([32] : List UInt8).isSuffixOf t with
  | false => rfl
  | true =>
    rw [List.isSuffixOf_iff_suffix] at hq
    obtain ⟨r, rfl⟩ := hq
    simp at h
theorem plain_of {p : UInt8 → Bool} {t : List UInt8} (hp : ∀ c, p c = true → okB c = true) (h : TextOk p t) : plainL t = true := by
  have h1 : t.all okB = true := by
    have := h.all
    rw [List.all_eq_true] at this ⊢
    exact fun c hc => hp c (this c hc)
  simp [plainL, h1, pre_blank h.hd, suf_blank h.lst, Lib.contains, index_dbl t h.dbl]

theorem noDbl_append : ∀ {a b : List UInt8}, noDbl a = true → noDbl b = true → a.getLast? ≠ some 32 ∨ b.head? ≠ some 32 → noDbl (a ++ b) = true
  | [], b, _, h, _ => h
  | [x], [], _, _, _ => rfl
  | [x], y :: b, _, h, e => by
    simp only [List.cons_append, List.nil_append, noDbl, h, Bool.and_true, Bool.not_eq_true', Bool.and_eq_false_iff]
    rcases e with e | e
    · left; simpa using e
    · right; simpa using e
  | x :: y :: a, b, h, h', e => by
    simp only [noDbl, Bool.and_eq_true] at h
    have ih := noDbl_append (a := y :: a) h.2 h' (by simpa using e)
    simp only [List.cons_append, noDbl, Bool.and_eq_true] at ih ⊢
    exact ⟨h.1, ih⟩
theorem TextOk.join {p : UInt8 → Bool} {a b : List UInt8} (hb : p 32 = true) (x : TextOk p a) (y : TextOk p b) : TextOk p (a ++ 32 :: b) := by
  refine ⟨by simp, ?_, ?_, ?_, ?_⟩
  · simp only [List.all_append, List.all_cons, x.all, y.all, hb, Bool.and_self]
  · have h : noDbl (32 :: b) = true := by
      have := noDbl_append (a := [32]) (b := b) rfl y.dbl (.inr y.hd)
      simpa using this
    exact noDbl_append x.dbl h (.inl x.lst)
  · have := x.ne
    cases a with
    | nil => exact (this rfl).elim
    | cons c a => simpa using x.hd
  · rw [List.getLast?_append]
    have := y.lst
    cases b with
    | nil => exact (y.ne rfl).elim
    | cons c b =>
      simp only [List.getLast?_cons_cons]
      cases hq : (c :: b).getLast? with
      | none => simp at hq
      | some z => rw [hq] at this; simpa using this
theorem TextOk.pre {p q : UInt8 → Bool} {a b : List UInt8} (hpq : ∀ c, q c = true → p c = true) (ha : a.all p = true) (h1 : noDbl a = true) (h2 : a.head? ≠ some 32) (h0 : a ≠ []) (y : TextOk q b) : TextOk p (a ++ b) := by
  refine ⟨by simp [h0], ?_, noDbl_append h1 y.dbl (.inr y.hd), ?_, ?_⟩
  · have : b.all p = true := by
      have := y.all
      rw [List.all_eq_true] at this ⊢
      exact fun c hc => hpq c (this c hc)
    simp only [List.all_append, ha, this, Bool.and_self]
  · cases a with
    | nil => exact (h0 rfl).elim
    | cons c a => simpa using h2
  · rw [List.getLast?_append]
    have := y.lst
    cases hq : b.getLast? with
    | none => exact (y.ne (List.getLast?_eq_none_iff.1 hq)).elim
    | some z => rw [hq] at this; simpa using this
theorem TextOk.weak {p q : UInt8 → Bool} {b : List UInt8} (hpq : ∀ c, q c = true → p c = true) (y : TextOk q b) : TextOk p b :=
  ⟨y.ne, by have := y.all; rw [List.all_eq_true] at this ⊢; exact fun c hc => hpq c (this c hc), y.dbl, y.hd, y.lst⟩

/-- as a test -/
def textB (p : UInt8 → Bool) (t : List UInt8) : Bool := t != [] && (t.all p && (noDbl t && (t.head? != some 32 && t.getLast? != some 32)))
theorem textB_ok {p : UInt8 → Bool} {t : List UInt8} (h : textB p t = true) : TextOk p t := by
  simp only [textB, Bool.and_eq_true, bne_iff_ne, ne_eq] at h
  exact ⟨h.1, h.2.1, h.2.2.1, h.2.2.2.1, h.2.2.2.2⟩
end Go.Proofs.YtpjbbpilgfihbaaGreatDoor
/- Draws: Range, Pick, Flip, Names, Sets, words. Own work of this seat. -/
set_option maxRecDepth 100000
set_option linter.unusedSimpArgs false
set_option linter.unusedVariables false
namespace Go.Proofs.YtpjbbpilgfihbaaGreatDoor
open Go Go.Av Go.RowKit
attribute [local go_sem ↓] br_true br_false dbr_true dbr_false dbri_true dbri_false dbrg_true dbrg_false
attribute [local go_sem] run cont br dbr dx dxc dgrd dyld dres dcall calm fieldPlace? allHas step1 opN grdN resN condN exitN stopN exitIt dOk xop xbin xint xarith xstr xbool xpick xnot xneg xextract xpart xpartOk xindex xfieldF fieldD xnew xbox xalloc xfieldAddr xptrAddIf xindexAddr xloadC xload putCells reElem xstoreB xstore xconv xtext xlen xlen2 xcall xfill xbuild cut rep xbuildSlice xbuildSliceD isRow elemD isU8 ev evs evp Go.Av.put Go.Av.get ofConst yldD yldV notBool_undef args0 cellsOf cond_true cond_false decide_true decide_false decide_eq_true_eq decide_eq_false_iff_not List.getElem?_cons_zero List.getElem?_cons_succ List.getElem?_nil List.getD_cons_zero List.getD_cons_succ List.getD_nil List.set_cons_zero List.set_cons_succ List.length_cons List.length_nil List.cons_append List.nil_append List.append_nil List.all_cons List.all_nil List.map_cons List.map_nil List.take_succ_cons List.take_zero List.drop_succ_cons List.drop_zero Bool.and_true Bool.true_and Bool.and_self Bool.and_false Bool.false_and one Go.Av.frozen beq_self_eq_true true_and and_true forall_const false_implies implies_true and_self Option.map_some Option.map_none Nat.zero_add Nat.add_zero Nat.zero_mul Nat.mul_one Nat.one_mul Int.toNat_zero ne_eq not_false_eq_true not_true_eq_false Bool.true_eq_false Bool.false_eq_true List.toList_toArray inr Go.Av.byteOf isByte decide_eq_decide Bool.not_true Bool.not_false Bool.not_eq_true' Bool.or_true Bool.true_or Bool.or_false Bool.false_or ge_iff_le gt_iff_lt and_assoc Bool.decide_eq_true beq_iff_eq beq_eq_false_iff_ne bne_iff_ne bne_self_eq_false if_true if_false Bool.and_eq_true Bool.or_eq_true Bool.and_eq_false_imp Bool.or_eq_false_iff Bool.not_eq_false' has Option.isSome_some Option.isSome_none Int.toNat_natCast Int.cast_ofNat_Int List.length_append xapp2 xapp xappS xappD xappB notInt srcOf srcB byteAV splice' xcut xcutS xcutF xcutB xcutN xcut0 cutL loOf hiOf evo xmake zelem xmax xcopy2 xcopyS xcopyB xnil xcut3 ixOf xclear2 xclearB List.getElem?_toArray xbin2 xnileq xempty xmkmap xmput xmputB xmputF isKey keyEq mfind xbin3 xeqs xeqop eqFs bothB leafEq xlook xlookB xlookF xbytes beq_c_n beq_n_c bne_c_n bne_n_c one_nil dxi dxic dbri rix dck reader blind opOk refOk Go.Op.operands Go.Call.operands List.contains_cons List.contains_nil dxg dxgc dbrg pck putD List.lookup_cons List.lookup_nil ts2 tb2 zl2 za2 Tryz.underlying2 ts3 tb3 zl3 za3 Tryz.underlying3 ts4 tb4 zl4 za4 Tryz.underlying4 ts5 tb5 zl5 za5 Tryz.underlying5 ts6 tb6 zl6 za6 Tryz.underlying6 ts7 tb7 za7 Tryz.underlying7 ts8 tb8 za8 Tryz.underlying8 ts9 tb9 zl9 za9 Tryz.underlying9 ts10 tb10 zl10 za10 Tryz.underlying10 ts11 tb11 zl11 za11 Tryz.underlying11 ts12 tb12 zl12 za12 Tryz.underlying12 ts13 tb13 za13 Tryz.underlying13 ts14 tb14 za14 Tryz.underlying14 ts18 tb18 za18 Tryz.underlying18 ts19 tb19 za19 Tryz.underlying19 ts21 tb21 zl21 za21 Tryz.underlying21 ts22 tb22 zl22 za22 Tryz.underlying22 ts24 tb24 za24 Tryz.underlying24 ts25 tb25 za25 Tryz.underlying25 ts27 tb27 zl27 za27 Tryz.underlying27 ts35 tb35 zl35 za35 Tryz.underlying35 ts36 tb36 za36 Tryz.underlying36 ts37 tb37 za37 Tryz.underlying37 ts39 tb39 zl39 za39 Tryz.underlying39 ts41 tb41 za41 Tryz.underlying41 ts42 tb42 za42 Tryz.underlying42 ts63 tb63 zl63 za63 Tryz.underlying63 ts64 tb64 zl64 za64 Tryz.underlying64 ts65 tb65 za65 Tryz.underlying65 ts66 tb66 za66 Tryz.underlying66 ts67 tb67 zl67 za67 Tryz.underlying67 ts69 tb69 za69 Tryz.underlying69 ts70 tb70 za70 Tryz.underlying70 ts73 tb73 za73 Tryz.underlying73 ts74 tb74 za74 Tryz.underlying74 ts75 tb75 zl75 za75 Tryz.underlying75 ts82 tb82 zl82 za82 Tryz.underlying82 ts96 tb96 za96 Tryz.underlying96 ts97 tb97 za97 Tryz.underlying97 ts103 tb103 za103 Tryz.underlying103 ts104 tb104 za104 Tryz.underlying104 ts109 tb109 zl109 za109 Tryz.underlying109 ts116 tb116 zl116 za116 Tryz.underlying116 ts117 tb117 za117 Tryz.underlying117 ts118 tb118 za118 Tryz.underlying118 ts120 tb120 zl120 za120 Tryz.underlying120 ts124 tb124 zl124 za124 Tryz.underlying124 ts126 tb126 za126 Tryz.underlying126 ts128 tb128 zl128 za128 Tryz.underlying128 ts130 tb130 za130 Tryz.underlying130 ts131 tb131 za131 Tryz.underlying131 ts153 tb153 zl153 za153 Tryz.underlying153 ts167 tb167 zl167 za167 Tryz.underlying167 ts171 tb171 zl171 za171 Tryz.underlying171 ts177 tb177 zl177 za177 Tryz.underlying177 ts183 tb183 zl183 za183 Tryz.underlying183 ts189 tb189 zl189 za189 Tryz.underlying189 ts191 tb191 zl191 za191 Tryz.underlying191 ts195 tb195 za195 Tryz.underlying195 ts196 tb196 za196 Tryz.underlying196 ts198 tb198 zl198 za198 Tryz.underlying198 ts203 tb203 Tryz.underlying203 ts209 tb209 za209 Tryz.underlying209 ts210 tb210 za210 Tryz.underlying210 ts211 tb211 Tryz.underlying211 ts216 tb216 za216 Tryz.underlying216 ts217 tb217 za217 Tryz.underlying217 ts220 tb220 Tryz.underlying220 ts225 tb225 Tryz.underlying225 ts226 tb226 Tryz.underlying226 ts227 tb227 za227 Tryz.underlying227 ts228 tb228 za228 Tryz.underlying228 ts232 tb232 zl232 za232 Tryz.underlying232 ts233 tb233 zl233 za233 Tryz.underlying233 ts235 tb235 zl235 za235 Tryz.underlying235 ts236 tb236 zl236 za236 Tryz.underlying236 ts237 tb237 za237 Tryz.underlying237 ts238 tb238 za238 Tryz.underlying238

theorem flip_mc (L : List Int) (k n : Int) (h1 : 1 ≤ n) (h2 : n ≤ 1000) (h3 : 0 ≤ k) (h4 : k ≤ 1000000) :
    Mc Tryz.prog 28 2 (str L k) [.int .i64 n] (fun r s => (∃ b, r = .bool b) ∧ s = str L (k + 1)) := by
  refine ct_intro Tryz.func28 rfl Tryz.ntmps28 hB28 (by simp) fun h ρ w => go (N := 9) Tryz.ntmps28 300 ?_
  simp only [go_sem, Nat.reduceAdd, Nat.reduceMul, Nat.reduceSub, Nat.reduceBEq, Nat.reduceLT, Nat.reduceLeDiff, reduceIte, reduceCtorEq, Int.reduceToNat, Int.reduceLE, Int.reduceLT, Int.reduceNe, Int.reduceMul, Int.reduceAdd, Int.reduceSub, Int.reduceDiv, Int.reduceMod, Int.reduceEq, Int.reduceGE, Int.reduceGT, Int.reduceNeg, Int.reduceBEq, Int.reduceBNe, Nat.reduceEqDiff]
  refine mcall (next_mc L k _ (by omega) (by omega) h3 h4) rfl rfl (id := 0) rfl (N := 9) Tryz.ntmps28 rfl ?_
  rintro _ _ ⟨⟨v, rfl, hv0, hv1⟩, rfl⟩
  refine go (N := 9) Tryz.ntmps28 300 ?_
  simp only [go_sem, Nat.reduceAdd, Nat.reduceMul, Nat.reduceSub, Nat.reduceBEq, Nat.reduceLT, Nat.reduceLeDiff, reduceIte, reduceCtorEq, Int.reduceToNat, Int.reduceLE, Int.reduceLT, Int.reduceNe, Int.reduceMul, Int.reduceAdd, Int.reduceSub, Int.reduceDiv, Int.reduceMod, Int.reduceEq, Int.reduceGE, Int.reduceGT, Int.reduceNeg, Int.reduceBEq, Int.reduceBNe, Nat.reduceEqDiff]
  exact aret [4] rfl ⟨_, _, rfl, ⟨_, rfl⟩, rfl, rfl, rfl⟩

theorem range_mc (L : List Int) (k a b : Int) (h1 : 0 ≤ a) (h2 : a ≤ b) (hb : b ≤ 1000) (h3 : 0 ≤ k) (h4 : k ≤ 1000000) :
    Mc Tryz.prog 104 2 (str L k) [.int .i64 a, .int .i64 b] (fun r s => (∃ v, r = .int .i64 v ∧ a ≤ v ∧ v ≤ b) ∧ s = str L (k + 1)) := by
  have d : decide (b < a) = false := by simp; omega
  refine ct_intro Tryz.func104 rfl Tryz.ntmps104 hB104 (by simp) fun h ρ w => go (N := 19) Tryz.ntmps104 300 ?_
  simp only [go_sem, Nat.reduceAdd, Nat.reduceMul, Nat.reduceSub, Nat.reduceBEq, Nat.reduceLT, Nat.reduceLeDiff, reduceIte, reduceCtorEq, Int.reduceToNat, Int.reduceLE, Int.reduceLT, Int.reduceNe, Int.reduceMul, Int.reduceAdd, Int.reduceSub, Int.reduceDiv, Int.reduceMod, Int.reduceEq, Int.reduceGE, Int.reduceGT, Int.reduceNeg, Int.reduceBEq, Int.reduceBNe, Nat.reduceEqDiff, d]
  refine ⟨by omega, by omega, by omega, by omega, ?_⟩
  refine mcall (next_mc L k _ (by omega) (by omega) h3 h4) rfl rfl (id := 0) rfl (N := 19) Tryz.ntmps104 rfl ?_
  rintro _ _ ⟨⟨v, rfl, hv0, hv1⟩, rfl⟩
  refine go (N := 19) Tryz.ntmps104 300 ?_
  simp only [go_sem, Nat.reduceAdd, Nat.reduceMul, Nat.reduceSub, Nat.reduceBEq, Nat.reduceLT, Nat.reduceLeDiff, reduceIte, reduceCtorEq, Int.reduceToNat, Int.reduceLE, Int.reduceLT, Int.reduceNe, Int.reduceMul, Int.reduceAdd, Int.reduceSub, Int.reduceDiv, Int.reduceMod, Int.reduceEq, Int.reduceGE, Int.reduceGT, Int.reduceNeg, Int.reduceBEq, Int.reduceBNe, Nat.reduceEqDiff]
  refine ⟨by omega, by omega, ?_⟩
  exact aret [6] rfl ⟨_, _, rfl, ⟨_, rfl, by omega, by omega⟩, rfl, rfl, rfl⟩

theorem pick_mc (L : List Int) (k : Int) (ls : List Int) (h1 : 1 ≤ ls.length) (h2 : ls.length ≤ 1000) (h3 : 0 ≤ k) (h4 : k ≤ 1000000) :
    Mc Tryz.prog 106 2 (str L k) [.fz 1 (ls.map (.int .i64))] (fun r s => (∃ x ∈ ls, r = .int .i64 x) ∧ s = str L (k + 1)) := by
  have hlen : ((List.map (AV.int .i64) ls).length : Int) = ls.length := by simp
  refine ct_intro Tryz.func106 rfl Tryz.ntmps106 hB106 (by simp) fun h ρ w => go (N := 12) Tryz.ntmps106 300 ?_
  simp only [go_sem, Nat.reduceAdd, Nat.reduceMul, Nat.reduceSub, Nat.reduceBEq, Nat.reduceLT, Nat.reduceLeDiff, reduceIte, reduceCtorEq, Int.reduceToNat, Int.reduceLE, Int.reduceLT, Int.reduceNe, Int.reduceMul, Int.reduceAdd, Int.reduceSub, Int.reduceDiv, Int.reduceMod, Int.reduceEq, Int.reduceGE, Int.reduceGT, Int.reduceNeg, Int.reduceBEq, Int.reduceBNe, Nat.reduceEqDiff]
  refine mcall (next_mc L k _ (by omega) (by omega) h3 h4) rfl rfl (id := 0) rfl (N := 12) Tryz.ntmps106 rfl ?_
  rintro _ _ ⟨⟨v, rfl, hv0, hv1⟩, rfl⟩
  have hv : v.toNat < ls.length := by omega
  have hx : (List.map (AV.int .i64) ls).getD v.toNat .any = .int .i64 ls[v.toNat] := by simp [List.getD, hv]
  refine go (N := 12) Tryz.ntmps106 300 ?_
  simp only [go_sem, Nat.reduceAdd, Nat.reduceMul, Nat.reduceSub, Nat.reduceBEq, Nat.reduceLT, Nat.reduceLeDiff, reduceIte, reduceCtorEq, Int.reduceToNat, Int.reduceLE, Int.reduceLT, Int.reduceNe, Int.reduceMul, Int.reduceAdd, Int.reduceSub, Int.reduceDiv, Int.reduceMod, Int.reduceEq, Int.reduceGE, Int.reduceGT, Int.reduceNeg, Int.reduceBEq, Int.reduceBNe, Nat.reduceEqDiff, hx]
  refine ⟨by omega, by omega, by simpa using hv, ?_⟩
  exact aret [4] rfl ⟨_, _, rfl, ⟨_, List.getElem_mem hv, rfl⟩, rfl, rfl, rfl⟩

def NameL : List (List UInt8) := [[65, 78, 78], [66, 79], [68, 82, 46, 32, 88], [65, 78, 78, 45, 77, 65, 82, 73, 69]]
def SetL : List (List UInt8) := [[72, 65, 76, 76], [77, 73, 76, 76], [66, 65, 82, 78, 32, 47, 32, 76, 79, 70, 84]]

theorem names_pc : Pc Tryz.prog 147 [] (· = .fz 1 (NameL.map .str)) := by
  refine pc_intro (ct_intro Tryz.func147 rfl Tryz.ntmps147 hB147 (by simp) fun h ρ w => goF (N := 2) Tryz.ntmps147 300 ?_)
  simp only [go_sem, Nat.reduceAdd, Nat.reduceMul, Nat.reduceSub, Nat.reduceBEq, Nat.reduceLT, Nat.reduceLeDiff, reduceIte, reduceCtorEq, Int.reduceToNat, Int.reduceLE, Int.reduceLT, Int.reduceNe, Int.reduceMul, Int.reduceAdd, Int.reduceSub, Int.reduceDiv, Int.reduceMod, Int.reduceEq, Int.reduceGE, Int.reduceGT, Int.reduceNeg, Int.reduceBEq, Int.reduceBNe, Nat.reduceEqDiff]
  exact aret [0] rfl ⟨rfl, rfl⟩
theorem sets_pc : Pc Tryz.prog 105 [] (· = .fz 1 (SetL.map .str)) := by
  refine pc_intro (ct_intro Tryz.func105 rfl Tryz.ntmps105 hB105 (by simp) fun h ρ w => goF (N := 2) Tryz.ntmps105 300 ?_)
  simp only [go_sem, Nat.reduceAdd, Nat.reduceMul, Nat.reduceSub, Nat.reduceBEq, Nat.reduceLT, Nat.reduceLeDiff, reduceIte, reduceCtorEq, Int.reduceToNat, Int.reduceLE, Int.reduceLT, Int.reduceNe, Int.reduceMul, Int.reduceAdd, Int.reduceSub, Int.reduceDiv, Int.reduceMod, Int.reduceEq, Int.reduceGE, Int.reduceGT, Int.reduceNeg, Int.reduceBEq, Int.reduceBNe, Nat.reduceEqDiff]
  exact aret [0] rfl ⟨rfl, rfl⟩

/-- the bytes of drawn words, of drawn texts -/
def wordC (c : UInt8) : Bool := okB c && (c != 40 && (c != 41 && c != 86))
def textC (c : UInt8) : Bool := okB c && c != 86
theorem wordC_text (c : UInt8) (h : wordC c = true) : textC c = true := by
  simp only [wordC, textC, Bool.and_eq_true] at h ⊢
  exact ⟨h.1, h.2.2.2⟩
theorem wordC_ok (c : UInt8) (h : wordC c = true) : okB c = true := by
  simp only [wordC, Bool.and_eq_true] at h
  exact h.1
theorem textC_ok (c : UInt8) (h : textC c = true) : okB c = true := by
  simp only [textC, Bool.and_eq_true] at h
  exact h.1

def WordL : List (List UInt8) := [[114, 97, 105, 110], [84, 119, 111], [103, 117, 110, 115], [65, 78, 78], [66, 111], [97], [116, 104, 101], [114, 101, 100], [99, 97, 114, 46], [115, 111, 108, 100, 105, 101, 114, 115], [49, 50],
  [100, 111, 110, 39, 116], [45, 45], [97, 98, 99, 100, 101, 102, 103, 104, 105, 106, 107, 108, 109, 110, 111, 112, 113, 114, 115, 116, 117, 118, 119, 120, 121, 122, 97, 98, 99, 100, 101, 102, 103, 104, 105, 106, 107, 108, 109, 110, 111, 112, 113, 114, 115, 116, 117, 118, 119, 120, 121, 122], [99, 97, 114]]
theorem word_ok : (WordL.all fun x => textB wordC x && decide (x.length ≤ 52)) = true := by decide +kernel
theorem word_of {x : List UInt8} (h : x ∈ WordL) : TextOk wordC x ∧ x.length ≤ 52 := by
  have := List.all_eq_true.1 word_ok x h
  simp only [Bool.and_eq_true, decide_eq_true_eq] at this
  exact ⟨textB_ok this.1, this.2⟩

theorem words_mc (L : List Int) (k m b : Int) (h1 : 1 ≤ m) (h2 : m ≤ 80) (h5 : 60 ≤ b) (h6 : b ≤ 2000) (h3 : 0 ≤ k) (h4 : k ≤ 900000) :
    Mc Tryz.prog 146 2 (str L k) [.int .i64 m, .int .i64 b] (fun r s => ∃ (t : List UInt8) (k' : Int), r = .str t ∧ TextOk wordC t ∧ (t.length : Int) ≤ b ∧ s = str L k' ∧ k ≤ k' ∧ k' ≤ k + 81) := by
  refine ct_intro Tryz.func146 rfl Tryz.ntmps146 hB146 (by simp) fun h ρ w => goF (N := 33) Tryz.ntmps146 300 ?_
  simp only [go_sem, Nat.reduceAdd, Nat.reduceMul, Nat.reduceSub, Nat.reduceBEq, Nat.reduceLT, Nat.reduceLeDiff, reduceIte, reduceCtorEq, Int.reduceToNat, Int.reduceLE, Int.reduceLT, Int.reduceNe, Int.reduceMul, Int.reduceAdd, Int.reduceSub, Int.reduceDiv, Int.reduceMod, Int.reduceEq, Int.reduceGE, Int.reduceGT, Int.reduceNeg, Int.reduceBEq, Int.reduceBNe, Nat.reduceEqDiff]
  refine mcall (range_mc L k 1 m (by omega) (by omega) (by omega) h3 (by omega)) rfl rfl (id := 0) rfl (N := 33) Tryz.ntmps146 rfl ?_
  rintro _ _ ⟨⟨v, rfl, hv0, hv1⟩, rfl⟩
  refine goF (N := 33) Tryz.ntmps146 300 ?_
  simp only [go_sem, Nat.reduceAdd, Nat.reduceMul, Nat.reduceSub, Nat.reduceBEq, Nat.reduceLT, Nat.reduceLeDiff, reduceIte, reduceCtorEq, Int.reduceToNat, Int.reduceLE, Int.reduceLT, Int.reduceNe, Int.reduceMul, Int.reduceAdd, Int.reduceSub, Int.reduceDiv, Int.reduceMod, Int.reduceEq, Int.reduceGE, Int.reduceGT, Int.reduceNeg, Int.reduceBEq, Int.reduceBNe, Nat.reduceEqDiff]
  refine aloopX (ι := Int × List UInt8) (κ := Int × List UInt8) (fun x => (v - x.1).toNat)
    (fun x => [(12, .int .i64 x.1), (11, .int .i64 v), (7, .str x.2), (2, .int .i64 b), (0, .ptr 0 1 0 0)])
    (fun x => [.arr 2 [str L (k + 1 + x.1)]])
    (fun x => 0 ≤ x.1 ∧ x.1 ≤ v ∧ (x.2.length : Int) ≤ b ∧ (x.1 = 0 → x.2 = []) ∧ (0 < x.1 → TextOk wordC x.2))
    (fun x => [(7, .str x.2), (0, .ptr 0 1 0 0)]) (fun x => [.arr 2 [str L x.1]])
    (fun x => k + 1 ≤ x.1 ∧ x.1 ≤ k + 81 ∧ (x.2.length : Int) ≤ b ∧ TextOk wordC x.2)
    (0, []) ⟨by omega, by omega, by simp; omega, by simp, by simp⟩ ?_ ?_ ?_
  · have h0 : k + 1 + 0 = k + 1 := by omega
    simp only [h0]
    refine Shift.weak ?_
    simp only [wk, go_sem, Nat.reduceAdd, Nat.reduceMul, Nat.reduceSub, Nat.reduceBEq, Nat.reduceLT, Nat.reduceLeDiff, reduceIte, reduceCtorEq, Int.reduceToNat, Int.reduceLE, Int.reduceLT, Int.reduceNe, Int.reduceMul, Int.reduceAdd, Int.reduceSub, Int.reduceDiv, Int.reduceMod, Int.reduceEq, Int.reduceGE, Int.reduceGT, Int.reduceNeg, Int.reduceBEq, Int.reduceBNe, Nat.reduceEqDiff]
  · rintro ⟨k', t⟩ ⟨g1, g2, g3, g4⟩
    simp only at g1 g2 g3 g4 ⊢
    refine go (N := 33) Tryz.ntmps146 300 ?_
    simp only [go_sem, Nat.reduceAdd, Nat.reduceMul, Nat.reduceSub, Nat.reduceBEq, Nat.reduceLT, Nat.reduceLeDiff, reduceIte, reduceCtorEq, Int.reduceToNat, Int.reduceLE, Int.reduceLT, Int.reduceNe, Int.reduceMul, Int.reduceAdd, Int.reduceSub, Int.reduceDiv, Int.reduceMod, Int.reduceEq, Int.reduceGE, Int.reduceGT, Int.reduceNeg, Int.reduceBEq, Int.reduceBNe, Nat.reduceEqDiff]
    exact aret [6] rfl ⟨_, _, rfl, ⟨t, k', rfl, g4, g3, rfl, by omega, by omega⟩, rfl, rfl⟩
  · rintro ⟨i, t⟩ ⟨g1, g2, g3, g4, g5⟩ J Q hJ hQ
    simp only at g1 g2 g3 g4 g5 hJ hQ ⊢
    refine goF (N := 33) Tryz.ntmps146 300 ?_
    by_cases gi : i < v
    · have d1 : decide (i < v) = true := by simp; omega
      simp only [go_sem, Nat.reduceAdd, Nat.reduceMul, Nat.reduceSub, Nat.reduceBEq, Nat.reduceLT, Nat.reduceLeDiff, reduceIte, reduceCtorEq, Int.reduceToNat, Int.reduceLE, Int.reduceLT, Int.reduceNe, Int.reduceMul, Int.reduceAdd, Int.reduceSub, Int.reduceDiv, Int.reduceMod, Int.reduceEq, Int.reduceGE, Int.reduceGT, Int.reduceNeg, Int.reduceBEq, Int.reduceBNe, Nat.reduceEqDiff, d1]
      refine mcall (one_mc L (k + 1 + i) WordL (by decide) (by decide) (by omega) (by omega)) rfl rfl (id := 0) rfl (N := 33) Tryz.ntmps146 rfl ?_
      rintro _ _ ⟨⟨x, hx, rfl⟩, rfl⟩
      obtain ⟨x1, x2⟩ := word_of hx
      have e1 : k + 1 + i + 1 = k + 1 + (i + 1) := by omega
      by_cases ht : t = []
      · subst ht
        have d3 : decide (((0 : Nat) : Int) + (x.length : Int) > b) = false := by simp; omega
        refine goF (N := 33) Tryz.ntmps146 300 ?_
        simp only [go_sem, Nat.reduceAdd, Nat.reduceMul, Nat.reduceSub, Nat.reduceBEq, Nat.reduceLT, Nat.reduceLeDiff, reduceIte, reduceCtorEq, Int.reduceToNat, Int.reduceLE, Int.reduceLT, Int.reduceNe, Int.reduceMul, Int.reduceAdd, Int.reduceSub, Int.reduceDiv, Int.reduceMod, Int.reduceEq, Int.reduceGE, Int.reduceGT, Int.reduceNeg, Int.reduceBEq, Int.reduceBNe, Nat.reduceEqDiff, d3]
        refine ⟨by omega, by omega, fun gl => (by simp at gl; omega), fun gl => ?_⟩
        repeat refine And.intro (by omega) ?_
        rw [e1]
        refine ainv (hJ (i + 1, x) ⟨by omega, by omega, by simp; omega, by intro h; simp at h; omega, fun _ => x1⟩ (by simp; omega)) (Shift.weak ?_)
        simp only [wk, go_sem, Nat.reduceAdd, Nat.reduceMul, Nat.reduceSub, Nat.reduceBEq, Nat.reduceLT, Nat.reduceLeDiff, reduceIte, reduceCtorEq, Int.reduceToNat, Int.reduceLE, Int.reduceLT, Int.reduceNe, Int.reduceMul, Int.reduceAdd, Int.reduceSub, Int.reduceDiv, Int.reduceMod, Int.reduceEq, Int.reduceGE, Int.reduceGT, Int.reduceNeg, Int.reduceBEq, Int.reduceBNe, Nat.reduceEqDiff]
      · have i0 : 0 < i := by
          rcases Int.lt_or_eq_of_le g1 with h | h
          · exact h
          · exact (ht (g4 h.symm)).elim
        have d2 : (t != []) = true := by simp [ht]
        have d2' : (t == []) = false := by simp [ht]
        refine goF (N := 33) Tryz.ntmps146 300 ?_
        simp only [go_sem, Nat.reduceAdd, Nat.reduceMul, Nat.reduceSub, Nat.reduceBEq, Nat.reduceLT, Nat.reduceLeDiff, reduceIte, reduceCtorEq, Int.reduceToNat, Int.reduceLE, Int.reduceLT, Int.reduceNe, Int.reduceMul, Int.reduceAdd, Int.reduceSub, Int.reduceDiv, Int.reduceMod, Int.reduceEq, Int.reduceGE, Int.reduceGT, Int.reduceNeg, Int.reduceBEq, Int.reduceBNe, Nat.reduceEqDiff, d2, d2']
        repeat refine And.intro (by omega) ?_
        refine ⟨fun gl => ?_, fun gl => ?_⟩
        · rw [e1]
          refine ainv (hQ (k + 1 + (i + 1), t) ⟨by omega, by omega, g3, g5 i0⟩) (Shift.weak ?_)
          simp only [wk, go_sem, Nat.reduceAdd, Nat.reduceMul, Nat.reduceSub, Nat.reduceBEq, Nat.reduceLT, Nat.reduceLeDiff, reduceIte, reduceCtorEq, Int.reduceToNat, Int.reduceLE, Int.reduceLT, Int.reduceNe, Int.reduceMul, Int.reduceAdd, Int.reduceSub, Int.reduceDiv, Int.reduceMod, Int.reduceEq, Int.reduceGE, Int.reduceGT, Int.reduceNeg, Int.reduceBEq, Int.reduceBNe, Nat.reduceEqDiff]
        · repeat refine And.intro (by omega) ?_
          rw [e1]
          refine ainv (hJ (i + 1, t ++ 32 :: x) ⟨by omega, by omega, by simp; simp at gl; omega, by intro h; simp at h; omega, fun _ => (g5 i0).join rfl x1⟩ (by simp; omega)) (Shift.weak ?_)
          simp only [wk, go_sem, Nat.reduceAdd, Nat.reduceMul, Nat.reduceSub, Nat.reduceBEq, Nat.reduceLT, Nat.reduceLeDiff, reduceIte, reduceCtorEq, Int.reduceToNat, Int.reduceLE, Int.reduceLT, Int.reduceNe, Int.reduceMul, Int.reduceAdd, Int.reduceSub, Int.reduceDiv, Int.reduceMod, Int.reduceEq, Int.reduceGE, Int.reduceGT, Int.reduceNeg, Int.reduceBEq, Int.reduceBNe, Nat.reduceEqDiff]
    · have d1 : decide (i < v) = false := by simp; omega
      simp only [go_sem, Nat.reduceAdd, Nat.reduceMul, Nat.reduceSub, Nat.reduceBEq, Nat.reduceLT, Nat.reduceLeDiff, reduceIte, reduceCtorEq, Int.reduceToNat, Int.reduceLE, Int.reduceLT, Int.reduceNe, Int.reduceMul, Int.reduceAdd, Int.reduceSub, Int.reduceDiv, Int.reduceMod, Int.reduceEq, Int.reduceGE, Int.reduceGT, Int.reduceNeg, Int.reduceBEq, Int.reduceBNe, Nat.reduceEqDiff, d1]
      refine ainv (hQ (k + 1 + i, t) ⟨by omega, by omega, g3, g5 (by omega)⟩) (Shift.weak ?_)
      simp only [wk, go_sem, Nat.reduceAdd, Nat.reduceMul, Nat.reduceSub, Nat.reduceBEq, Nat.reduceLT, Nat.reduceLeDiff, reduceIte, reduceCtorEq, Int.reduceToNat, Int.reduceLE, Int.reduceLT, Int.reduceNe, Int.reduceMul, Int.reduceAdd, Int.reduceSub, Int.reduceDiv, Int.reduceMod, Int.reduceEq, Int.reduceGE, Int.reduceGT, Int.reduceNeg, Int.reduceBEq, Int.reduceBNe, Nat.reduceEqDiff]
end Go.Proofs.YtpjbbpilgfihbaaGreatDoor
/- Draws: the paragraphs of a block. Own work of this seat. -/
set_option maxRecDepth 100000
set_option linter.unusedSimpArgs false
set_option linter.unusedVariables false
namespace Go.Proofs.YtpjbbpilgfihbaaGreatDoor
open Go Go.Av Go.RowKit
attribute [local go_sem ↓] br_true br_false dbr_true dbr_false dbri_true dbri_false dbrg_true dbrg_false
attribute [local go_sem] run cont br dbr dx dxc dgrd dyld dres dcall calm fieldPlace? allHas step1 opN grdN resN condN exitN stopN exitIt dOk xop xbin xint xarith xstr xbool xpick xnot xneg xextract xpart xpartOk xindex xfieldF fieldD xnew xbox xalloc xfieldAddr xptrAddIf xindexAddr xloadC xload putCells reElem xstoreB xstore xconv xtext xlen xlen2 xcall xfill xbuild cut rep xbuildSlice xbuildSliceD isRow elemD isU8 ev evs evp Go.Av.put Go.Av.get ofConst yldD yldV notBool_undef args0 cellsOf cond_true cond_false decide_true decide_false decide_eq_true_eq decide_eq_false_iff_not List.getElem?_cons_zero List.getElem?_cons_succ List.getElem?_nil List.getD_cons_zero List.getD_cons_succ List.getD_nil List.set_cons_zero List.set_cons_succ List.length_cons List.length_nil List.cons_append List.nil_append List.append_nil List.all_cons List.all_nil List.map_cons List.map_nil List.take_succ_cons List.take_zero List.drop_succ_cons List.drop_zero Bool.and_true Bool.true_and Bool.and_self Bool.and_false Bool.false_and one Go.Av.frozen beq_self_eq_true true_and and_true forall_const false_implies implies_true and_self Option.map_some Option.map_none Nat.zero_add Nat.add_zero Nat.zero_mul Nat.mul_one Nat.one_mul Int.toNat_zero ne_eq not_false_eq_true not_true_eq_false Bool.true_eq_false Bool.false_eq_true List.toList_toArray inr Go.Av.byteOf isByte decide_eq_decide Bool.not_true Bool.not_false Bool.not_eq_true' Bool.or_true Bool.true_or Bool.or_false Bool.false_or ge_iff_le gt_iff_lt and_assoc Bool.decide_eq_true beq_iff_eq beq_eq_false_iff_ne bne_iff_ne bne_self_eq_false if_true if_false Bool.and_eq_true Bool.or_eq_true Bool.and_eq_false_imp Bool.or_eq_false_iff Bool.not_eq_false' has Option.isSome_some Option.isSome_none Int.toNat_natCast Int.cast_ofNat_Int List.length_append xapp2 xapp xappS xappD xappB notInt srcOf srcB byteAV splice' xcut xcutS xcutF xcutB xcutN xcut0 cutL loOf hiOf evo xmake zelem xmax xcopy2 xcopyS xcopyB xnil xcut3 ixOf xclear2 xclearB List.getElem?_toArray xbin2 xnileq xempty xmkmap xmput xmputB xmputF isKey keyEq mfind xbin3 xeqs xeqop eqFs bothB leafEq xlook xlookB xlookF xbytes beq_c_n beq_n_c bne_c_n bne_n_c one_nil dxi dxic dbri rix dck reader blind opOk refOk Go.Op.operands Go.Call.operands List.contains_cons List.contains_nil dxg dxgc dbrg pck putD List.lookup_cons List.lookup_nil ts2 tb2 zl2 za2 Tryz.underlying2 ts3 tb3 zl3 za3 Tryz.underlying3 ts4 tb4 zl4 za4 Tryz.underlying4 ts5 tb5 zl5 za5 Tryz.underlying5 ts6 tb6 zl6 za6 Tryz.underlying6 ts7 tb7 za7 Tryz.underlying7 ts8 tb8 za8 Tryz.underlying8 ts9 tb9 zl9 za9 Tryz.underlying9 ts10 tb10 zl10 za10 Tryz.underlying10 ts11 tb11 zl11 za11 Tryz.underlying11 ts12 tb12 zl12 za12 Tryz.underlying12 ts13 tb13 za13 Tryz.underlying13 ts14 tb14 za14 Tryz.underlying14 ts18 tb18 za18 Tryz.underlying18 ts19 tb19 za19 Tryz.underlying19 ts21 tb21 zl21 za21 Tryz.underlying21 ts22 tb22 zl22 za22 Tryz.underlying22 ts24 tb24 za24 Tryz.underlying24 ts25 tb25 za25 Tryz.underlying25 ts27 tb27 zl27 za27 Tryz.underlying27 ts35 tb35 zl35 za35 Tryz.underlying35 ts36 tb36 za36 Tryz.underlying36 ts37 tb37 za37 Tryz.underlying37 ts39 tb39 zl39 za39 Tryz.underlying39 ts41 tb41 za41 Tryz.underlying41 ts42 tb42 za42 Tryz.underlying42 ts63 tb63 zl63 za63 Tryz.underlying63 ts64 tb64 zl64 za64 Tryz.underlying64 ts65 tb65 za65 Tryz.underlying65 ts66 tb66 za66 Tryz.underlying66 ts67 tb67 zl67 za67 Tryz.underlying67 ts69 tb69 za69 Tryz.underlying69 ts70 tb70 za70 Tryz.underlying70 ts73 tb73 za73 Tryz.underlying73 ts74 tb74 za74 Tryz.underlying74 ts75 tb75 zl75 za75 Tryz.underlying75 ts82 tb82 zl82 za82 Tryz.underlying82 ts96 tb96 za96 Tryz.underlying96 ts97 tb97 za97 Tryz.underlying97 ts103 tb103 za103 Tryz.underlying103 ts104 tb104 za104 Tryz.underlying104 ts109 tb109 zl109 za109 Tryz.underlying109 ts116 tb116 zl116 za116 Tryz.underlying116 ts117 tb117 za117 Tryz.underlying117 ts118 tb118 za118 Tryz.underlying118 ts120 tb120 zl120 za120 Tryz.underlying120 ts124 tb124 zl124 za124 Tryz.underlying124 ts126 tb126 za126 Tryz.underlying126 ts128 tb128 zl128 za128 Tryz.underlying128 ts130 tb130 za130 Tryz.underlying130 ts131 tb131 za131 Tryz.underlying131 ts153 tb153 zl153 za153 Tryz.underlying153 ts167 tb167 zl167 za167 Tryz.underlying167 ts171 tb171 zl171 za171 Tryz.underlying171 ts177 tb177 zl177 za177 Tryz.underlying177 ts183 tb183 zl183 za183 Tryz.underlying183 ts189 tb189 zl189 za189 Tryz.underlying189 ts191 tb191 zl191 za191 Tryz.underlying191 ts195 tb195 za195 Tryz.underlying195 ts196 tb196 za196 Tryz.underlying196 ts198 tb198 zl198 za198 Tryz.underlying198 ts203 tb203 Tryz.underlying203 ts209 tb209 za209 Tryz.underlying209 ts210 tb210 za210 Tryz.underlying210 ts211 tb211 Tryz.underlying211 ts216 tb216 za216 Tryz.underlying216 ts217 tb217 za217 Tryz.underlying217 ts220 tb220 Tryz.underlying220 ts225 tb225 Tryz.underlying225 ts226 tb226 Tryz.underlying226 ts227 tb227 za227 Tryz.underlying227 ts228 tb228 za228 Tryz.underlying228 ts232 tb232 zl232 za232 Tryz.underlying232 ts233 tb233 zl233 za233 Tryz.underlying233 ts235 tb235 zl235 za235 Tryz.underlying235 ts236 tb236 zl236 za236 Tryz.underlying236 ts237 tb237 za237 Tryz.underlying237 ts238 tb238 za238 Tryz.underlying238

/-- what paragraphs come to: the kind of the last one, if all are right -/
def runL : Int → List Pa → Option Int
  | l, [] => some l
  | l, p :: r => if paraOk p && followsL p.kind l then runL p.kind r else none
theorem runL_append : ∀ (a b : List Pa) (l e : Int), runL l a = some e → runL l (a ++ b) = runL e b
  | [], b, l, e, h => by
    simp only [runL, Option.some.injEq] at h
    subst h; rfl
  | p :: a, b, l, e, h => by
    simp only [runL] at h
    simp only [List.cons_append, runL]
    split at h
    · rename_i hc
      rw [if_pos hc]
      exact runL_append a b p.kind e h
    · simp at h
theorem runL_one {a : List Pa} {l e : Int} {p : Pa} (h : runL l a = some e) (h1 : paraOk p = true) (h2 : followsL p.kind e = true) : runL l (a ++ [p]) = some p.kind := by
  rw [runL_append a _ l e h]
  simp [runL, h1, h2]

def TurnL : List (List UInt8) := [[67, 85, 84, 32, 84, 79], [70, 65, 68, 69, 32, 79, 85, 84, 46], [69, 78, 68], [65, 78, 78]]
def PreA : List (List UInt8) := [[64], [62, 32], [35, 32], [92], [40], [35]]
def PreB : List (List UInt8) := [[40], [92], [35], [64]]

/-- a paragraph that is drawn -/
structure DrawnP (p : Pa) : Prop where
  text : TextOk textC p.text
  kind : 1 ≤ p.kind ∧ p.kind ≤ 5
  name : p.kind = 2 → p.text ∈ NameL
  ok : paraOk p = true

theorem drawn_text {k : Int} {t : List UInt8} (hk : k = 1 ∨ k = 4) (h : TextOk textC t) (hl : t.length ≤ 2000) : DrawnP ⟨k, t⟩ := by
  have hp := plain_of textC_ok h
  have hn : (t != []) = true := by simpa using h.ne
  refine ⟨h, by simp only; omega, by simp only; omega, ?_⟩
  rcases hk with rfl | rfl <;> simp [paraOk, hp, hn, hl]
theorem drawn_aside {t : List UInt8} (h : TextOk wordC t) (hl : t.length ≤ 200) : DrawnP ⟨3, t⟩ := by
  have h' := h.weak wordC_text
  have hp := plain_of textC_ok h'
  have hn : (t != []) = true := by simpa using h.ne
  have hc : Lib.containsAny t [40, 41] = false := by
    have : Lib.NoAny t [40, 41] t.length := fun j b _ hj => by
      have := List.all_eq_true.1 h.all b (List.mem_of_getElem? hj)
      simp only [wordC, Bool.and_eq_true, bne_iff_ne] at this
      simp [this.2.1, this.2.2.1]
    simp [Lib.containsAny, Lib.indexAny_none this]
  refine ⟨h', by simp, by simp, ?_⟩
  have h2 : t.length ≤ 2000 := by omega
  simp [paraOk, hp, hn, hl, hc, h2]
theorem name_all : (NameL.all fun t => textB textC t && paraOk ⟨2, t⟩) = true := by decide +kernel
theorem turn_all : (TurnL.all fun t => textB textC t && paraOk ⟨5, t⟩) = true := by decide +kernel
theorem drawn_name {t : List UInt8} (h : t ∈ NameL) : DrawnP ⟨2, t⟩ := by
  have := List.all_eq_true.1 name_all t h
  simp only [Bool.and_eq_true] at this
  exact ⟨textB_ok this.1, by simp, fun _ => h, this.2⟩
theorem drawn_turn {t : List UInt8} (h : t ∈ TurnL) : DrawnP ⟨5, t⟩ := by
  have := List.all_eq_true.1 turn_all t h
  simp only [Bool.and_eq_true] at this
  exact ⟨textB_ok this.1, by simp, by simp, this.2⟩
def preB (a : List UInt8) : Bool := a.all textC && (noDbl a && (a.head? != some 32 && (a != [] && decide (a.length ≤ 2))))
theorem pre_all : (PreA.all preB && PreB.all preB) = true := by decide +kernel
theorem pre_text {a t : List UInt8} (h : a ∈ PreA ∨ a ∈ PreB) (y : TextOk wordC t) : TextOk textC (a ++ t) ∧ a.length ≤ 2 := by
  have hp : preB a = true := by
    have := pre_all
    simp only [Bool.and_eq_true] at this
    rcases h with h | h
    · exact List.all_eq_true.1 this.1 a h
    · exact List.all_eq_true.1 this.2 a h
  simp only [preB, Bool.and_eq_true, bne_iff_ne, decide_eq_true_eq] at hp
  exact ⟨TextOk.pre wordC_text hp.1 hp.2.1 hp.2.2.1 hp.2.2.2.1 y, hp.2.2.2.2⟩

/-- a block of paragraphs that is drawn -/
structure Block (b : List Pa) : Prop where
  run : ∀ l, l ≠ 2 → l ≠ 3 → ∃ e, runL l b = some e ∧ e ≠ 2 ∧ e ≠ 3
  len : 1 ≤ b.length ∧ b.length ≤ 5
  all : ∀ p ∈ b, DrawnP p
theorem follows_free {k l : Int} (hk : k ≠ 3) (hk' : k ≠ 4) (h2 : l ≠ 2) (h3 : l ≠ 3) : followsL k l = true := by simp [followsL, hk, hk', h2, h3]
theorem block_one {p : Pa} (h : DrawnP p) (hk : p.kind = 1 ∨ p.kind = 5) : Block [p] := by
  refine ⟨fun l h2 h3 => ⟨p.kind, ?_, by omega, by omega⟩, by simp, by simpa using h⟩
  simp [runL, h.ok, follows_free (show p.kind ≠ 3 by omega) (show p.kind ≠ 4 by omega) h2 h3]

theorem frozen_paras (ps : List Pa) : (flat (ps.map paA)).all Av.frozen = true := by
  induction ps with
  | nil => rfl
  | cons y l ih => simpa [flat, cellsOf, paA, Av.frozen] using ih

set_option maxHeartbeats 2000000 in
theorem paras_mc (L : List Int) (k : Int) (h3 : 0 ≤ k) (h4 : k ≤ 800000) :
    Mc Tryz.prog 107 2 (str L k) [] (fun r s => ∃ (b : List Pa) (k' : Int), r = .fz 2 (b.map paA) ∧ Block b ∧ s = str L k' ∧ k ≤ k' ∧ k' ≤ k + 400) := by
  refine ct_intro Tryz.func107 rfl Tryz.ntmps107 hB107 (by simp) fun h ρ w => goF (N := 72) Tryz.ntmps107 300 ?_
  simp only [go_sem, Nat.reduceAdd, Nat.reduceMul, Nat.reduceSub, Nat.reduceBEq, Nat.reduceLT, Nat.reduceLeDiff, reduceIte, reduceCtorEq, Int.reduceToNat, Int.reduceLE, Int.reduceLT, Int.reduceNe, Int.reduceMul, Int.reduceAdd, Int.reduceSub, Int.reduceDiv, Int.reduceMod, Int.reduceEq, Int.reduceGE, Int.reduceGT, Int.reduceNeg, Int.reduceBEq, Int.reduceBNe, Nat.reduceEqDiff]
  refine mcall (next_mc L k _ (by omega) (by omega) h3 (by omega)) rfl rfl (id := 0) rfl (N := 72) Tryz.ntmps107 rfl ?_
  rintro _ _ ⟨⟨v, rfl, hv0, hv1⟩, rfl⟩
  have hv : (v = 0 ∨ v = 1) ∨ v = 2 ∨ ((v == 0) = false ∧ (v == 1) = false ∧ (v == 2) = false) := by
    by_cases a : v = 0
    · exact .inl (.inl a)
    by_cases b : v = 1
    · exact .inl (.inr b)
    by_cases c : v = 2
    · exact .inr (.inl c)
    exact .inr (.inr ⟨by simpa using a, by simpa using b, by simpa using c⟩)
  rcases hv with hv | rfl | ⟨d0, d1, d2⟩
  · have picks : ∀ x ∈ [(3 : Int), 12, 60], 1 ≤ x ∧ x ≤ 80 := by decide
    rcases hv with rfl | rfl <;>
    · refine goF (N := 72) Tryz.ntmps107 300 ?_
      simp only [go_sem, Nat.reduceAdd, Nat.reduceMul, Nat.reduceSub, Nat.reduceBEq, Nat.reduceLT, Nat.reduceLeDiff, reduceIte, reduceCtorEq, Int.reduceToNat, Int.reduceLE, Int.reduceLT, Int.reduceNe, Int.reduceMul, Int.reduceAdd, Int.reduceSub, Int.reduceDiv, Int.reduceMod, Int.reduceEq, Int.reduceGE, Int.reduceGT, Int.reduceNeg, Int.reduceBEq, Int.reduceBNe, Nat.reduceEqDiff]
      refine mcall (pick_mc L (k + 1) [3, 12, 60] (by decide) (by decide) (by omega) (by omega)) rfl rfl (id := 0) rfl (N := 72) Tryz.ntmps107 rfl ?_
      rintro _ _ ⟨⟨x, hx, rfl⟩, rfl⟩
      refine goF (N := 72) Tryz.ntmps107 300 ?_
      simp only [go_sem, Nat.reduceAdd, Nat.reduceMul, Nat.reduceSub, Nat.reduceBEq, Nat.reduceLT, Nat.reduceLeDiff, reduceIte, reduceCtorEq, Int.reduceToNat, Int.reduceLE, Int.reduceLT, Int.reduceNe, Int.reduceMul, Int.reduceAdd, Int.reduceSub, Int.reduceDiv, Int.reduceMod, Int.reduceEq, Int.reduceGE, Int.reduceGT, Int.reduceNeg, Int.reduceBEq, Int.reduceBNe, Nat.reduceEqDiff]
      refine mcall (words_mc L (k + 1 + 1) x 1998 (picks x hx).1 (picks x hx).2 (by omega) (by omega) (by omega) (by omega)) rfl rfl (id := 0) rfl (N := 72) Tryz.ntmps107 rfl ?_
      rintro _ _ ⟨t, k', rfl, t1, t2, rfl, t3, t4⟩
      refine goF (N := 72) Tryz.ntmps107 300 ?_
      simp only [go_sem, Nat.reduceAdd, Nat.reduceMul, Nat.reduceSub, Nat.reduceBEq, Nat.reduceLT, Nat.reduceLeDiff, reduceIte, reduceCtorEq, Int.reduceToNat, Int.reduceLE, Int.reduceLT, Int.reduceNe, Int.reduceMul, Int.reduceAdd, Int.reduceSub, Int.reduceDiv, Int.reduceMod, Int.reduceEq, Int.reduceGE, Int.reduceGT, Int.reduceNeg, Int.reduceBEq, Int.reduceBNe, Nat.reduceEqDiff]
      refine mcall (flip_mc L k' 8 (by omega) (by omega) (by omega) (by omega)) rfl rfl (id := 0) rfl (N := 72) Tryz.ntmps107 rfl ?_
      rintro _ _ ⟨⟨b, rfl⟩, rfl⟩
      cases b with
      | true =>
        refine goF (N := 72) Tryz.ntmps107 300 ?_
        simp only [go_sem, Nat.reduceAdd, Nat.reduceMul, Nat.reduceSub, Nat.reduceBEq, Nat.reduceLT, Nat.reduceLeDiff, reduceIte, reduceCtorEq, Int.reduceToNat, Int.reduceLE, Int.reduceLT, Int.reduceNe, Int.reduceMul, Int.reduceAdd, Int.reduceSub, Int.reduceDiv, Int.reduceMod, Int.reduceEq, Int.reduceGE, Int.reduceGT, Int.reduceNeg, Int.reduceBEq, Int.reduceBNe, Nat.reduceEqDiff]
        refine mcall (one_mc L (k' + 1) PreA (by decide) (by decide) (by omega) (by omega)) rfl rfl (id := 0) rfl (N := 72) Tryz.ntmps107 rfl ?_
        rintro _ _ ⟨⟨y, hy, rfl⟩, rfl⟩
        refine goF (N := 72) Tryz.ntmps107 300 ?_
        simp only [go_sem, Nat.reduceAdd, Nat.reduceMul, Nat.reduceSub, Nat.reduceBEq, Nat.reduceLT, Nat.reduceLeDiff, reduceIte, reduceCtorEq, Int.reduceToNat, Int.reduceLE, Int.reduceLT, Int.reduceNe, Int.reduceMul, Int.reduceAdd, Int.reduceSub, Int.reduceDiv, Int.reduceMod, Int.reduceEq, Int.reduceGE, Int.reduceGT, Int.reduceNeg, Int.reduceBEq, Int.reduceBNe, Nat.reduceEqDiff]
        obtain ⟨u1, u2⟩ := pre_text (.inl hy) t1
        refine ⟨by omega, ?_⟩
        exact aret [2] rfl ⟨_, _, rfl, ⟨[⟨1, y ++ t⟩], k' + 1 + 1, rfl, block_one (drawn_text (.inl rfl) u1 (by simp; omega)) (.inl rfl), rfl, by omega, by omega⟩, rfl, rfl⟩
      | false =>
        refine goF (N := 72) Tryz.ntmps107 300 ?_
        simp only [go_sem, Nat.reduceAdd, Nat.reduceMul, Nat.reduceSub, Nat.reduceBEq, Nat.reduceLT, Nat.reduceLeDiff, reduceIte, reduceCtorEq, Int.reduceToNat, Int.reduceLE, Int.reduceLT, Int.reduceNe, Int.reduceMul, Int.reduceAdd, Int.reduceSub, Int.reduceDiv, Int.reduceMod, Int.reduceEq, Int.reduceGE, Int.reduceGT, Int.reduceNeg, Int.reduceBEq, Int.reduceBNe, Nat.reduceEqDiff]
        exact aret [2] rfl ⟨_, _, rfl, ⟨[⟨1, t⟩], k' + 1, rfl, block_one (drawn_text (.inl rfl) (t1.weak wordC_text) (by omega)) (.inl rfl), rfl, by omega, by omega⟩, rfl, rfl⟩
  · refine goF (N := 72) Tryz.ntmps107 300 ?_
    simp only [go_sem, Nat.reduceAdd, Nat.reduceMul, Nat.reduceSub, Nat.reduceBEq, Nat.reduceLT, Nat.reduceLeDiff, reduceIte, reduceCtorEq, Int.reduceToNat, Int.reduceLE, Int.reduceLT, Int.reduceNe, Int.reduceMul, Int.reduceAdd, Int.reduceSub, Int.reduceDiv, Int.reduceMod, Int.reduceEq, Int.reduceGE, Int.reduceGT, Int.reduceNeg, Int.reduceBEq, Int.reduceBNe, Nat.reduceEqDiff]
    refine mcall (one_mc L (k + 1) TurnL (by decide) (by decide) (by omega) (by omega)) rfl rfl (id := 0) rfl (N := 72) Tryz.ntmps107 rfl ?_
    rintro _ _ ⟨⟨y, hy, rfl⟩, rfl⟩
    refine goF (N := 72) Tryz.ntmps107 300 ?_
    simp only [go_sem, Nat.reduceAdd, Nat.reduceMul, Nat.reduceSub, Nat.reduceBEq, Nat.reduceLT, Nat.reduceLeDiff, reduceIte, reduceCtorEq, Int.reduceToNat, Int.reduceLE, Int.reduceLT, Int.reduceNe, Int.reduceMul, Int.reduceAdd, Int.reduceSub, Int.reduceDiv, Int.reduceMod, Int.reduceEq, Int.reduceGE, Int.reduceGT, Int.reduceNeg, Int.reduceBEq, Int.reduceBNe, Nat.reduceEqDiff]
    exact aret [2] rfl ⟨_, _, rfl, ⟨[⟨5, y⟩], k + 1 + 1, rfl, block_one (drawn_turn hy) (.inr rfl), rfl, by omega, by omega⟩, rfl, rfl⟩
  · refine go (N := 72) Tryz.ntmps107 300 ?_
    simp only [go_sem, Nat.reduceAdd, Nat.reduceMul, Nat.reduceSub, Nat.reduceBEq, Nat.reduceLT, Nat.reduceLeDiff, reduceIte, reduceCtorEq, Int.reduceToNat, Int.reduceLE, Int.reduceLT, Int.reduceNe, Int.reduceMul, Int.reduceAdd, Int.reduceSub, Int.reduceDiv, Int.reduceMod, Int.reduceEq, Int.reduceGE, Int.reduceGT, Int.reduceNeg, Int.reduceBEq, Int.reduceBNe, Nat.reduceEqDiff, d0, d1, d2]
    refine pcall1 (names_pc) rfl (N := 72) Tryz.ntmps107 rfl (go (N := 72) Tryz.ntmps107 300 ?_)
    simp only [go_sem, Nat.reduceAdd, Nat.reduceMul, Nat.reduceSub, Nat.reduceBEq, Nat.reduceLT, Nat.reduceLeDiff, reduceIte, reduceCtorEq, Int.reduceToNat, Int.reduceLE, Int.reduceLT, Int.reduceNe, Int.reduceMul, Int.reduceAdd, Int.reduceSub, Int.reduceDiv, Int.reduceMod, Int.reduceEq, Int.reduceGE, Int.reduceGT, Int.reduceNeg, Int.reduceBEq, Int.reduceBNe, Nat.reduceEqDiff, d0, d1, d2]
    refine mcall (one_mc L (k + 1) NameL (by decide) (by decide) (by omega) (by omega)) rfl rfl (id := 0) rfl (N := 72) Tryz.ntmps107 rfl ?_
    rintro _ _ ⟨⟨y, hy, rfl⟩, rfl⟩
    refine go (N := 72) Tryz.ntmps107 300 ?_
    simp only [go_sem, Nat.reduceAdd, Nat.reduceMul, Nat.reduceSub, Nat.reduceBEq, Nat.reduceLT, Nat.reduceLeDiff, reduceIte, reduceCtorEq, Int.reduceToNat, Int.reduceLE, Int.reduceLT, Int.reduceNe, Int.reduceMul, Int.reduceAdd, Int.reduceSub, Int.reduceDiv, Int.reduceMod, Int.reduceEq, Int.reduceGE, Int.reduceGT, Int.reduceNeg, Int.reduceBEq, Int.reduceBNe, Nat.reduceEqDiff]
    refine mcall (range_mc L (k + 1 + 1) 1 2 (by omega) (by omega) (by omega) (by omega) (by omega)) rfl rfl (id := 0) rfl (N := 72) Tryz.ntmps107 rfl ?_
    rintro _ _ ⟨⟨n, rfl, hn1, hn2⟩, rfl⟩
    refine go (N := 72) Tryz.ntmps107 300 ?_
    simp only [go_sem, Nat.reduceAdd, Nat.reduceMul, Nat.reduceSub, Nat.reduceBEq, Nat.reduceLT, Nat.reduceLeDiff, reduceIte, reduceCtorEq, Int.reduceToNat, Int.reduceLE, Int.reduceLT, Int.reduceNe, Int.reduceMul, Int.reduceAdd, Int.reduceSub, Int.reduceDiv, Int.reduceMod, Int.reduceEq, Int.reduceGE, Int.reduceGT, Int.reduceNeg, Int.reduceBEq, Int.reduceBNe, Nat.reduceEqDiff]
    have dn := drawn_name hy
    refine aloop (ι := Int × Int × Int × List Pa) (fun x => (n - x.1).toNat)
      (fun x => [(40, .int .i64 x.1), (39, .int .i64 n), (4, .sl 1 0 x.2.2.2.length x.2.2.2.length), (0, .ptr 0 1 0 0)])
      (fun x => [.arr 2 [str L x.2.1], .arr 2 (x.2.2.2.map paA)])
      (fun x => 0 ≤ x.1 ∧ x.1 ≤ n ∧ k ≤ x.2.1 ∧ x.2.1 ≤ k + 3 + 170 * x.1 ∧ (x.2.2.1 = 2 ∨ x.2.2.1 = 4) ∧ (0 < x.1 → x.2.2.1 = 4) ∧ (∀ l, l ≠ 2 → l ≠ 3 → runL l x.2.2.2 = some x.2.2.1) ∧ (∀ p ∈ x.2.2.2, DrawnP p) ∧ 1 ≤ x.2.2.2.length ∧ (x.2.2.2.length : Int) ≤ 1 + 2 * x.1)
      (0, k + 1 + 1 + 1, 2, [⟨2, y⟩]) ⟨Int.le_refl _, by simp only; omega, by simp only; omega, by simp only; omega, .inl rfl, by simp, ?_, by simpa using dn, by simp, by simp⟩ ?_ ?_
    · intro l h2 h3
      simp [runL, dn.ok, follows_free (show (2 : Int) ≠ 3 by decide) (show (2 : Int) ≠ 4 by decide) h2 h3]
    · refine Shift.weak ?_
      simp only [wk, go_sem, Nat.reduceAdd, Nat.reduceMul, Nat.reduceSub, Nat.reduceBEq, Nat.reduceLT, Nat.reduceLeDiff, reduceIte, reduceCtorEq, Int.reduceToNat, Int.reduceLE, Int.reduceLT, Int.reduceNe, Int.reduceMul, Int.reduceAdd, Int.reduceSub, Int.reduceDiv, Int.reduceMod, Int.reduceEq, Int.reduceGE, Int.reduceGT, Int.reduceNeg, Int.reduceBEq, Int.reduceBNe, Nat.reduceEqDiff]
    · rintro ⟨i, k', e, out⟩ ⟨g1, g2, g3, g4, g5, g6, g7, g8, g9, g10⟩ J hJ
      simp only at g1 g2 g3 g4 g5 g6 g7 g8 g9 g10 hJ ⊢
      refine goF (N := 72) Tryz.ntmps107 300 ?_
      by_cases gi : i < n
      · have di : decide (i < n) = true := by simp; omega
        simp only [go_sem, Nat.reduceAdd, Nat.reduceMul, Nat.reduceSub, Nat.reduceBEq, Nat.reduceLT, Nat.reduceLeDiff, reduceIte, reduceCtorEq, Int.reduceToNat, Int.reduceLE, Int.reduceLT, Int.reduceNe, Int.reduceMul, Int.reduceAdd, Int.reduceSub, Int.reduceDiv, Int.reduceMod, Int.reduceEq, Int.reduceGE, Int.reduceGT, Int.reduceNeg, Int.reduceBEq, Int.reduceBNe, Nat.reduceEqDiff, di]
        refine mcall (flip_mc L k' 3 (by omega) (by omega) (by omega) (by omega)) rfl rfl (id := 0) rfl (N := 72) Tryz.ntmps107 rfl ?_
        rintro _ _ ⟨⟨b, rfl⟩, rfl⟩
        refine amid (κ := Int × Int × List Pa)
          (fun x => [(40, .int .i64 i), (39, .int .i64 n), (4, .sl 1 0 x.2.2.length x.2.2.length), (0, .ptr 0 1 0 0)])
          (fun x => [.arr 2 [str L x.1], .arr 2 (x.2.2.map paA)])
          (fun x => k' ≤ x.1 ∧ x.1 ≤ k' + 84 ∧ (x.2.1 = 2 ∨ x.2.1 = 3 ∨ x.2.1 = 4) ∧ (∀ l, l ≠ 2 → l ≠ 3 → runL l x.2.2 = some x.2.1) ∧ (∀ p ∈ x.2.2, DrawnP p) ∧ 1 ≤ x.2.2.length ∧ (x.2.2.length : Int) ≤ 2 + 2 * i) ?_ ?_
        · rintro ⟨k2, e2, out2⟩ ⟨f1, f2, f3, f4, f5, f6, f7⟩
          simp only at f1 f2 f3 f4 f5 f6 f7 ⊢
          refine goF (N := 72) Tryz.ntmps107 300 ?_
          simp only [go_sem, Nat.reduceAdd, Nat.reduceMul, Nat.reduceSub, Nat.reduceBEq, Nat.reduceLT, Nat.reduceLeDiff, reduceIte, reduceCtorEq, Int.reduceToNat, Int.reduceLE, Int.reduceLT, Int.reduceNe, Int.reduceMul, Int.reduceAdd, Int.reduceSub, Int.reduceDiv, Int.reduceMod, Int.reduceEq, Int.reduceGE, Int.reduceGT, Int.reduceNeg, Int.reduceBEq, Int.reduceBNe, Nat.reduceEqDiff]
          refine mcall (pick_mc L k2 [3, 12, 80] (by decide) (by decide) (by omega) (by omega)) rfl rfl (id := 0) rfl (N := 72) Tryz.ntmps107 rfl ?_
          rintro _ _ ⟨⟨x, hx, rfl⟩, rfl⟩
          have px : 1 ≤ x ∧ x ≤ 80 := (show ∀ x ∈ [(3 : Int), 12, 80], 1 ≤ x ∧ x ≤ 80 by decide) x hx
          refine goF (N := 72) Tryz.ntmps107 300 ?_
          simp only [go_sem, Nat.reduceAdd, Nat.reduceMul, Nat.reduceSub, Nat.reduceBEq, Nat.reduceLT, Nat.reduceLeDiff, reduceIte, reduceCtorEq, Int.reduceToNat, Int.reduceLE, Int.reduceLT, Int.reduceNe, Int.reduceMul, Int.reduceAdd, Int.reduceSub, Int.reduceDiv, Int.reduceMod, Int.reduceEq, Int.reduceGE, Int.reduceGT, Int.reduceNeg, Int.reduceBEq, Int.reduceBNe, Nat.reduceEqDiff]
          refine mcall (words_mc L (k2 + 1) x 1998 px.1 px.2 (by omega) (by omega) (by omega) (by omega)) rfl rfl (id := 0) rfl (N := 72) Tryz.ntmps107 rfl ?_
          rintro _ _ ⟨t, k3, rfl, t1, t2, rfl, t3, t4⟩
          refine goF (N := 72) Tryz.ntmps107 300 ?_
          simp only [go_sem, Nat.reduceAdd, Nat.reduceMul, Nat.reduceSub, Nat.reduceBEq, Nat.reduceLT, Nat.reduceLeDiff, reduceIte, reduceCtorEq, Int.reduceToNat, Int.reduceLE, Int.reduceLT, Int.reduceNe, Int.reduceMul, Int.reduceAdd, Int.reduceSub, Int.reduceDiv, Int.reduceMod, Int.reduceEq, Int.reduceGE, Int.reduceGT, Int.reduceNeg, Int.reduceBEq, Int.reduceBNe, Nat.reduceEqDiff]
          refine mcall (flip_mc L k3 8 (by omega) (by omega) (by omega) (by omega)) rfl rfl (id := 0) rfl (N := 72) Tryz.ntmps107 rfl ?_
          rintro _ _ ⟨⟨b, rfl⟩, rfl⟩
          have fol : followsL 4 e2 = true := by rcases f3 with rfl | rfl | rfl <;> rfl
          have e3 : ∀ q u, List.map paA out2 ++ [AV.agg [.int .i64 q, .str u]] = List.map paA (out2 ++ [⟨q, u⟩]) := fun q u => by simp [paA]
          have e4 : ∀ q u, out2.length + 1 = (out2 ++ [(⟨q, u⟩ : Pa)]).length := fun q u => by simp
          have next : ∀ (q : Pa) (k4 : Int), DrawnP q → q.kind = 4 → k3 ≤ k4 → k4 ≤ k3 + 2 → _ := fun q k4 hq hk h1 h2 => hJ (i + 1, k4, 4, out2 ++ [q]) ⟨by simp only; omega, by simp only; omega, by simp only; omega, by simp only; omega, .inr rfl, fun _ => rfl,
            fun l l2 l3 => hk ▸ runL_one (f4 l l2 l3) hq.ok (hk ▸ fol), fun p hp => by
              rcases List.mem_append.1 hp with hp | hp
              · exact f5 p hp
              · rw [List.mem_singleton.1 hp]; exact hq, by simp, by simp only [List.length_append, List.length_cons, List.length_nil]; omega⟩ (by simp only; omega)
          cases b with
          | true =>
            refine goF (N := 72) Tryz.ntmps107 300 ?_
            simp only [go_sem, Nat.reduceAdd, Nat.reduceMul, Nat.reduceSub, Nat.reduceBEq, Nat.reduceLT, Nat.reduceLeDiff, reduceIte, reduceCtorEq, Int.reduceToNat, Int.reduceLE, Int.reduceLT, Int.reduceNe, Int.reduceMul, Int.reduceAdd, Int.reduceSub, Int.reduceDiv, Int.reduceMod, Int.reduceEq, Int.reduceGE, Int.reduceGT, Int.reduceNeg, Int.reduceBEq, Int.reduceBNe, Nat.reduceEqDiff]
            refine mcall (one_mc L (k3 + 1) PreB (by decide) (by decide) (by omega) (by omega)) rfl rfl (id := 0) rfl (N := 72) Tryz.ntmps107 rfl ?_
            rintro _ _ ⟨⟨y, hy, rfl⟩, rfl⟩
            obtain ⟨u1, u2⟩ := pre_text (.inr hy) t1
            refine goF (N := 72) Tryz.ntmps107 300 ?_
            simp only [go_sem, Nat.reduceAdd, Nat.reduceMul, Nat.reduceSub, Nat.reduceBEq, Nat.reduceLT, Nat.reduceLeDiff, reduceIte, reduceCtorEq, Int.reduceToNat, Int.reduceLE, Int.reduceLT, Int.reduceNe, Int.reduceMul, Int.reduceAdd, Int.reduceSub, Int.reduceDiv, Int.reduceMod, Int.reduceEq, Int.reduceGE, Int.reduceGT, Int.reduceNeg, Int.reduceBEq, Int.reduceBNe, Nat.reduceEqDiff]
            refine ⟨by omega, by simp, .inl trivial, by simp; omega, by simp; omega, by omega, by omega, ?_⟩
            rw [e3, e4 4 (y ++ t)]
            refine ainv (next ⟨4, y ++ t⟩ (k3 + 1 + 1) (drawn_text (.inr rfl) u1 (by simp; omega)) rfl (by omega) (by omega)) (Shift.weak ?_)
            simp only [wk, go_sem, Nat.reduceAdd, Nat.reduceMul, Nat.reduceSub, Nat.reduceBEq, Nat.reduceLT, Nat.reduceLeDiff, reduceIte, reduceCtorEq, Int.reduceToNat, Int.reduceLE, Int.reduceLT, Int.reduceNe, Int.reduceMul, Int.reduceAdd, Int.reduceSub, Int.reduceDiv, Int.reduceMod, Int.reduceEq, Int.reduceGE, Int.reduceGT, Int.reduceNeg, Int.reduceBEq, Int.reduceBNe, Nat.reduceEqDiff]
          | false =>
            refine goF (N := 72) Tryz.ntmps107 300 ?_
            simp only [go_sem, Nat.reduceAdd, Nat.reduceMul, Nat.reduceSub, Nat.reduceBEq, Nat.reduceLT, Nat.reduceLeDiff, reduceIte, reduceCtorEq, Int.reduceToNat, Int.reduceLE, Int.reduceLT, Int.reduceNe, Int.reduceMul, Int.reduceAdd, Int.reduceSub, Int.reduceDiv, Int.reduceMod, Int.reduceEq, Int.reduceGE, Int.reduceGT, Int.reduceNeg, Int.reduceBEq, Int.reduceBNe, Nat.reduceEqDiff]
            refine ⟨by simp, .inl trivial, by simp; omega, by simp; omega, by omega, by omega, ?_⟩
            rw [e3, e4 4 t]
            refine ainv (next ⟨4, t⟩ (k3 + 1) (drawn_text (.inr rfl) (t1.weak wordC_text) (by omega)) rfl (by omega) (by omega)) (Shift.weak ?_)
            simp only [wk, go_sem, Nat.reduceAdd, Nat.reduceMul, Nat.reduceSub, Nat.reduceBEq, Nat.reduceLT, Nat.reduceLeDiff, reduceIte, reduceCtorEq, Int.reduceToNat, Int.reduceLE, Int.reduceLT, Int.reduceNe, Int.reduceMul, Int.reduceAdd, Int.reduceSub, Int.reduceDiv, Int.reduceMod, Int.reduceEq, Int.reduceGE, Int.reduceGT, Int.reduceNeg, Int.reduceBEq, Int.reduceBNe, Nat.reduceEqDiff]
        · intro Q hQ
          cases b with
          | true =>
            refine goF (N := 72) Tryz.ntmps107 300 ?_
            simp only [go_sem, Nat.reduceAdd, Nat.reduceMul, Nat.reduceSub, Nat.reduceBEq, Nat.reduceLT, Nat.reduceLeDiff, reduceIte, reduceCtorEq, Int.reduceToNat, Int.reduceLE, Int.reduceLT, Int.reduceNe, Int.reduceMul, Int.reduceAdd, Int.reduceSub, Int.reduceDiv, Int.reduceMod, Int.reduceEq, Int.reduceGE, Int.reduceGT, Int.reduceNeg, Int.reduceBEq, Int.reduceBNe, Nat.reduceEqDiff]
            refine mcall (pick_mc L (k' + 1) [2, 20] (by decide) (by decide) (by omega) (by omega)) rfl rfl (id := 0) rfl (N := 72) Tryz.ntmps107 rfl ?_
            rintro _ _ ⟨⟨x, hx, rfl⟩, rfl⟩
            have px : 1 ≤ x ∧ x ≤ 80 := (show ∀ x ∈ [(2 : Int), 20], 1 ≤ x ∧ x ≤ 80 by decide) x hx
            refine goF (N := 72) Tryz.ntmps107 300 ?_
            simp only [go_sem, Nat.reduceAdd, Nat.reduceMul, Nat.reduceSub, Nat.reduceBEq, Nat.reduceLT, Nat.reduceLeDiff, reduceIte, reduceCtorEq, Int.reduceToNat, Int.reduceLE, Int.reduceLT, Int.reduceNe, Int.reduceMul, Int.reduceAdd, Int.reduceSub, Int.reduceDiv, Int.reduceMod, Int.reduceEq, Int.reduceGE, Int.reduceGT, Int.reduceNeg, Int.reduceBEq, Int.reduceBNe, Nat.reduceEqDiff]
            refine mcall (words_mc L (k' + 1 + 1) x 200 px.1 px.2 (by omega) (by omega) (by omega) (by omega)) rfl rfl (id := 0) rfl (N := 72) Tryz.ntmps107 rfl ?_
            rintro _ _ ⟨t, k3, rfl, t1, t2, rfl, t3, t4⟩
            refine goF (N := 72) Tryz.ntmps107 300 ?_
            simp only [go_sem, Nat.reduceAdd, Nat.reduceMul, Nat.reduceSub, Nat.reduceBEq, Nat.reduceLT, Nat.reduceLeDiff, reduceIte, reduceCtorEq, Int.reduceToNat, Int.reduceLE, Int.reduceLT, Int.reduceNe, Int.reduceMul, Int.reduceAdd, Int.reduceSub, Int.reduceDiv, Int.reduceMod, Int.reduceEq, Int.reduceGE, Int.reduceGT, Int.reduceNeg, Int.reduceBEq, Int.reduceBNe, Nat.reduceEqDiff]
            have e3 : ∀ q u, List.map paA out ++ [AV.agg [.int .i64 q, .str u]] = List.map paA (out ++ [⟨q, u⟩]) := fun q u => by simp [paA]
            have e4 : ∀ q u, out.length + 1 = (out ++ [(⟨q, u⟩ : Pa)]).length := fun q u => by simp
            have dq : DrawnP ⟨3, t⟩ := drawn_aside t1 (by omega)
            have fol : followsL 3 e = true := by rcases g5 with rfl | rfl <;> rfl
            refine ⟨by simp, .inl trivial, by simp; omega, by simp; omega, ?_⟩
            rw [e3, e4 3 t]
            refine ainv (hQ (k3, 3, out ++ [⟨3, t⟩]) ⟨by simp only; omega, by simp only; omega, .inr (.inl rfl), fun l l2 l3 => runL_one (g7 l l2 l3) dq.ok fol, fun p hp => ?_, by simp, by simp; omega⟩) (Shift.weak ?_)
            · rcases List.mem_append.1 hp with hp | hp
              · exact g8 p hp
              · rw [List.mem_singleton.1 hp]; exact dq
            · simp only [wk, go_sem, Nat.reduceAdd, Nat.reduceMul, Nat.reduceSub, Nat.reduceBEq, Nat.reduceLT, Nat.reduceLeDiff, reduceIte, reduceCtorEq, Int.reduceToNat, Int.reduceLE, Int.reduceLT, Int.reduceNe, Int.reduceMul, Int.reduceAdd, Int.reduceSub, Int.reduceDiv, Int.reduceMod, Int.reduceEq, Int.reduceGE, Int.reduceGT, Int.reduceNeg, Int.reduceBEq, Int.reduceBNe, Nat.reduceEqDiff]
          | false =>
            refine goF (N := 72) Tryz.ntmps107 300 ?_
            simp only [go_sem, Nat.reduceAdd, Nat.reduceMul, Nat.reduceSub, Nat.reduceBEq, Nat.reduceLT, Nat.reduceLeDiff, reduceIte, reduceCtorEq, Int.reduceToNat, Int.reduceLE, Int.reduceLT, Int.reduceNe, Int.reduceMul, Int.reduceAdd, Int.reduceSub, Int.reduceDiv, Int.reduceMod, Int.reduceEq, Int.reduceGE, Int.reduceGT, Int.reduceNeg, Int.reduceBEq, Int.reduceBNe, Nat.reduceEqDiff]
            refine ainv (hQ (k' + 1, e, out) ⟨by simp only; omega, by simp only; omega, by simp only; omega, g7, g8, g9, by simp only; omega⟩) (Shift.weak ?_)
            simp only [wk, go_sem, Nat.reduceAdd, Nat.reduceMul, Nat.reduceSub, Nat.reduceBEq, Nat.reduceLT, Nat.reduceLeDiff, reduceIte, reduceCtorEq, Int.reduceToNat, Int.reduceLE, Int.reduceLT, Int.reduceNe, Int.reduceMul, Int.reduceAdd, Int.reduceSub, Int.reduceDiv, Int.reduceMod, Int.reduceEq, Int.reduceGE, Int.reduceGT, Int.reduceNeg, Int.reduceBEq, Int.reduceBNe, Nat.reduceEqDiff]
      · have di : decide (i < n) = false := by simp; omega
        simp only [go_sem, Nat.reduceAdd, Nat.reduceMul, Nat.reduceSub, Nat.reduceBEq, Nat.reduceLT, Nat.reduceLeDiff, reduceIte, reduceCtorEq, Int.reduceToNat, Int.reduceLE, Int.reduceLT, Int.reduceNe, Int.reduceMul, Int.reduceAdd, Int.reduceSub, Int.reduceDiv, Int.reduceMod, Int.reduceEq, Int.reduceGE, Int.reduceGT, Int.reduceNeg, Int.reduceBEq, Int.reduceBNe, Nat.reduceEqDiff, di]
        have i0 : i = n := by omega
        have e4 := g6 (by omega)
        refine ARet.shift (Shift.freeze 2 (id := 1) rfl rfl (by simp) (Nat.le_refl _) (frozen_paras out)) (aret [2] rfl ⟨_, _, rfl, ⟨out, k', ?_, ⟨fun l l2 l3 => ⟨e, g7 l l2 l3, by omega, by omega⟩, ⟨g9, by omega⟩, g8⟩, rfl, by omega, by omega⟩, rfl, rfl⟩)
        simp [resV, Av.get, Av.put, List.take_of_length_le]
end Go.Proofs.YtpjbbpilgfihbaaGreatDoor
