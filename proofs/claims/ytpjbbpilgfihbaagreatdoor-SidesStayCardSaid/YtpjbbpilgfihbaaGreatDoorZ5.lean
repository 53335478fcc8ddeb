/- Sides. Own work of this seat. -/
import Derived.Test.YtpjbbpilgfihbaaGreatDoorZ4
import Derived.Test.YtpjbbpilgfihbaaGreatDoorK4
set_option maxRecDepth 100000
set_option linter.unusedSimpArgs false
set_option linter.unusedVariables false
namespace Go.Proofs.YtpjbbpilgfihbaaGreatDoor
open Go Go.Av Go.RowKit
attribute [local go_sem ↓] br_true br_false dbr_true dbr_false dbri_true dbri_false dbrg_true dbrg_false
attribute [local go_sem] run cont br dbr dx dxc dgrd dyld dres dcall calm fieldPlace? allHas step1 opN grdN resN condN exitN stopN exitIt dOk xop xbin xint xarith xstr xbool xpick xnot xneg xextract xpart xpartOk xindex xfieldF fieldD xnew xbox xalloc xfieldAddr xptrAddIf xindexAddr xloadC xload putCells reElem xstoreB xstore xconv xtext xlen xlen2 xcall xfill xbuild cut rep xbuildSlice xbuildSliceD isRow elemD isU8 ev evs evp Go.Av.put Go.Av.get ofConst yldD yldV notBool_undef args0 cellsOf cond_true cond_false decide_true decide_false decide_eq_true_eq decide_eq_false_iff_not List.getElem?_cons_zero List.getElem?_cons_succ List.getElem?_nil List.getD_cons_zero List.getD_cons_succ List.getD_nil List.set_cons_zero List.set_cons_succ List.length_cons List.length_nil List.cons_append List.nil_append List.append_nil List.all_cons List.all_nil List.map_cons List.map_nil List.take_succ_cons List.take_zero List.drop_succ_cons List.drop_zero Bool.and_true Bool.true_and Bool.and_self Bool.and_false Bool.false_and one Go.Av.frozen beq_self_eq_true true_and and_true forall_const false_implies implies_true and_self Option.map_some Option.map_none Nat.zero_add Nat.add_zero Nat.zero_mul Nat.mul_one Nat.one_mul Int.toNat_zero ne_eq not_false_eq_true not_true_eq_false Bool.true_eq_false Bool.false_eq_true List.toList_toArray inr Go.Av.byteOf isByte decide_eq_decide Bool.not_true Bool.not_false Bool.not_eq_true' Bool.or_true Bool.true_or Bool.or_false Bool.false_or ge_iff_le gt_iff_lt and_assoc Bool.decide_eq_true beq_iff_eq beq_eq_false_iff_ne bne_iff_ne bne_self_eq_false if_true if_false Bool.and_eq_true Bool.or_eq_true Bool.and_eq_false_imp Bool.or_eq_false_iff Bool.not_eq_false' has Option.isSome_some Option.isSome_none Int.toNat_natCast Int.cast_ofNat_Int List.length_append xapp2 xapp xappS xappD xappB notInt srcOf srcB byteAV splice' xcut xcutS xcutF xcutB xcutN xcut0 cutL loOf hiOf evo xmake zelem xmax xcopy2 xcopyS xcopyB xnil xcut3 ixOf xclear2 xclearB List.getElem?_toArray xbin2 xnileq xempty xmkmap xmput xmputB xmputF isKey keyEq mfind xbin3 xeqs xeqop eqFs bothB leafEq xlook xlookB xlookF xbytes beq_c_n beq_n_c bne_c_n bne_n_c one_nil dxi dxic dbri rix dck reader blind opOk refOk Go.Op.operands Go.Call.operands List.contains_cons List.contains_nil dxg dxgc dbrg pck putD List.lookup_cons List.lookup_nil ts2 tb2 zl2 za2 Tryz.underlying2 ts3 tb3 zl3 za3 Tryz.underlying3 ts4 tb4 zl4 za4 Tryz.underlying4 ts5 tb5 zl5 za5 Tryz.underlying5 ts6 tb6 zl6 za6 Tryz.underlying6 ts7 tb7 za7 Tryz.underlying7 ts8 tb8 za8 Tryz.underlying8 ts9 tb9 zl9 za9 Tryz.underlying9 ts10 tb10 zl10 za10 Tryz.underlying10 ts11 tb11 zl11 za11 Tryz.underlying11 ts12 tb12 zl12 za12 Tryz.underlying12 ts13 tb13 za13 Tryz.underlying13 ts14 tb14 za14 Tryz.underlying14 ts18 tb18 za18 Tryz.underlying18 ts19 tb19 za19 Tryz.underlying19 ts21 tb21 zl21 za21 Tryz.underlying21 ts22 tb22 zl22 za22 Tryz.underlying22 ts24 tb24 za24 Tryz.underlying24 ts25 tb25 za25 Tryz.underlying25 ts27 tb27 zl27 za27 Tryz.underlying27 ts35 tb35 zl35 za35 Tryz.underlying35 ts36 tb36 za36 Tryz.underlying36 ts37 tb37 za37 Tryz.underlying37 ts39 tb39 zl39 za39 Tryz.underlying39 ts41 tb41 za41 Tryz.underlying41 ts42 tb42 za42 Tryz.underlying42 ts63 tb63 zl63 za63 Tryz.underlying63 ts64 tb64 zl64 za64 Tryz.underlying64 ts65 tb65 za65 Tryz.underlying65 ts66 tb66 za66 Tryz.underlying66 ts67 tb67 zl67 za67 Tryz.underlying67 ts69 tb69 za69 Tryz.underlying69 ts70 tb70 za70 Tryz.underlying70 ts73 tb73 za73 Tryz.underlying73 ts74 tb74 za74 Tryz.underlying74 ts75 tb75 zl75 za75 Tryz.underlying75 ts82 tb82 zl82 za82 Tryz.underlying82 ts96 tb96 za96 Tryz.underlying96 ts97 tb97 za97 Tryz.underlying97 ts103 tb103 za103 Tryz.underlying103 ts104 tb104 za104 Tryz.underlying104 ts109 tb109 zl109 za109 Tryz.underlying109 ts116 tb116 zl116 za116 Tryz.underlying116 ts117 tb117 za117 Tryz.underlying117 ts118 tb118 za118 Tryz.underlying118 ts120 tb120 zl120 za120 Tryz.underlying120 ts124 tb124 zl124 za124 Tryz.underlying124 ts126 tb126 za126 Tryz.underlying126 ts128 tb128 zl128 za128 Tryz.underlying128 ts130 tb130 za130 Tryz.underlying130 ts131 tb131 za131 Tryz.underlying131 ts153 tb153 zl153 za153 Tryz.underlying153 ts167 tb167 zl167 za167 Tryz.underlying167 ts171 tb171 zl171 za171 Tryz.underlying171 ts177 tb177 zl177 za177 Tryz.underlying177 ts183 tb183 zl183 za183 Tryz.underlying183 ts189 tb189 zl189 za189 Tryz.underlying189 ts191 tb191 zl191 za191 Tryz.underlying191 ts195 tb195 za195 Tryz.underlying195 ts196 tb196 za196 Tryz.underlying196 ts198 tb198 zl198 za198 Tryz.underlying198 ts203 tb203 Tryz.underlying203 ts209 tb209 za209 Tryz.underlying209 ts210 tb210 za210 Tryz.underlying210 ts211 tb211 Tryz.underlying211 ts216 tb216 za216 Tryz.underlying216 ts217 tb217 za217 Tryz.underlying217 ts220 tb220 Tryz.underlying220 ts225 tb225 Tryz.underlying225 ts226 tb226 Tryz.underlying226 ts227 tb227 za227 Tryz.underlying227 ts228 tb228 za228 Tryz.underlying228 ts232 tb232 zl232 za232 Tryz.underlying232 ts233 tb233 zl233 za233 Tryz.underlying233 ts235 tb235 zl235 za235 Tryz.underlying235 ts236 tb236 zl236 za236 Tryz.underlying236 ts237 tb237 za237 Tryz.underlying237 ts238 tb238 za238 Tryz.underlying238

theorem run_all : ∀ (ps : List Pa) (l e : Int), runL l ps = some e → ∀ p ∈ ps, paraOk p = true
  | [], _, _, _, p, hp => by simp at hp
  | a :: r, l, e, h, p, hp => by
    simp only [runL] at h
    split at h
    · rename_i hc
      simp only [Bool.and_eq_true] at hc
      rcases List.mem_cons.1 hp with rfl | hp
      · exact hc.1
      · exact run_all r _ _ h p hp
    · cases h
theorem run_head {ps : List Pa} {e : Int} (h : runL 0 ps = some e) : ∀ p, ps.head? = some p → joins p = false := by
  intro p hp
  cases ps with
  | nil => simp at hp
  | cons a r =>
    simp only [List.head?_cons, Option.some.injEq] at hp
    subst hp
    simp only [runL] at h
    split at h
    · rename_i hc
      simp only [Bool.and_eq_true, followsL] at hc
      simp only [joins, Bool.or_eq_false_iff]
      have hc2 := hc.2
      constructor
      · cases q : a.kind == 3 with
        | false => rfl
        | true => rw [q] at hc2; simp at hc2
      · cases q : a.kind == 4 with
        | false => rfl
        | true =>
          cases q3 : a.kind == 3 with
          | true => rw [q3] at hc2; simp at hc2
          | false => rw [q3, q] at hc2; simp at hc2
    · cases h
theorem para_len {p : Pa} (h : paraOk p = true) : p.text.length ≤ 2000 := by
  simp only [paraOk, Bool.and_eq_true, decide_eq_true_eq] at h
  exact h.2.2.2.2.1
theorem ok_at : ∀ (l : List Sc) (acc : List (List UInt8)) (f : Bool), okFrom acc f l → ∀ x ∈ l, SceneOk x
  | [], _, _, _, x, hx => by simp at hx
  | a :: r, acc, f, h, x, hx => by
    rcases List.mem_cons.1 hx with rfl | hx
    · exact h.2.2.2.2.1
    · exact ok_at r _ _ h.2.2.2.2.2 x hx
theorem sum_ge : ∀ (l : List Sc) (x : Sc), x ∈ l → x.paras.length ≤ paraSum l
  | [], x, h => by simp at h
  | a :: r, x, h => by
    simp only [paraSum, List.map_cons, List.sum_cons]
    rcases List.mem_cons.1 h with rfl | h
    · omega
    · have := sum_ge r x h
      simp only [paraSum] at this
      omega

def x0 : Sc := ⟨[], 0, [], 0, []⟩
def sideS (xs : List Sc) (name : List UInt8) (first : Bool) (i : Nat) : Sc :=
  { xs.getD i x0 with time := if (xs.getD i x0).time == 5 && first then (timesTo xs xs.length).getD i 0 else (xs.getD i x0).time, paras := partL (xs.getD i x0).paras name }
def sideTo (xs : List Sc) (name : List UInt8) : Nat → List Sc
  | 0 => []
  | i + 1 => sideTo xs name i ++ (if hasCueL (xs.getD i x0) name then [sideS xs name (decide ((sideTo xs name i).length = 0)) i] else [])
def sidesR (x : Sr) (name : List UInt8) : Sr := ⟨x.title, sideTo x.scenes name x.scenes.length⟩
theorem sideTo_len (xs : List Sc) (name : List UInt8) : ∀ i, (sideTo xs name i).length ≤ i
  | 0 => by simp [sideTo]
  | i + 1 => by
    have := sideTo_len xs name i
    rw [sideTo]
    split <;> simp <;> omega

set_option maxHeartbeats 4000000 in
theorem sides_pch {S : Std} (hS : LibOk S) (x : Sr) (hx : ScriptOk x) (name : List UInt8) (hn : nameL name = true) (hn2 : name.length ≤ 30) (hne : (sidesR x name).scenes ≠ []) :
    PcH Tryz.prog S 17 [srA x, .str name] (· = .tup [srA (sidesR x name), .int .i64 0]) := by
  have hck := check_pch hS x hx
  obtain ⟨ti, xs⟩ := x
  have t3 := hx.len
  have t4 := hx.many
  have t5 := hx.ok
  have htm := times_pc ⟨ti, xs⟩ (by simp only at t3 ⊢; omega)
  simp only at t3 t4 t5
  have hne' : sideTo xs name xs.length ≠ [] := hne
  simp only [srA] at hck htm
  simp only [srA, sidesR]
  refine pch_intro (cth_intro Tryz.func17 rfl Tryz.ntmps17 hB17 (by simp) fun h ρ w hg => go (N := 68) Tryz.ntmps17 300 ?_)
  simp only [go_sem, Nat.reduceAdd, Nat.reduceMul, Nat.reduceSub, Nat.reduceBEq, Nat.reduceLT, Nat.reduceLeDiff, reduceIte, reduceCtorEq, Int.reduceToNat, Int.reduceLE, Int.reduceLT, Int.reduceNe, Int.reduceMul, Int.reduceAdd, Int.reduceSub, Int.reduceDiv, Int.reduceMod, Int.reduceEq, Int.reduceGE, Int.reduceGT, Int.reduceNeg, Int.reduceBEq, Int.reduceBNe, Nat.reduceEqDiff]
  refine pcallH1 hg (hck) rfl (N := 68) Tryz.ntmps17 rfl (go (N := 68) Tryz.ntmps17 300 ?_)
  simp only [go_sem, Nat.reduceAdd, Nat.reduceMul, Nat.reduceSub, Nat.reduceBEq, Nat.reduceLT, Nat.reduceLeDiff, reduceIte, reduceCtorEq, Int.reduceToNat, Int.reduceLE, Int.reduceLT, Int.reduceNe, Int.reduceMul, Int.reduceAdd, Int.reduceSub, Int.reduceDiv, Int.reduceMod, Int.reduceEq, Int.reduceGE, Int.reduceGT, Int.reduceNeg, Int.reduceBEq, Int.reduceBNe, Nat.reduceEqDiff]
  refine pcallH1 hg (isName_pch hS name (by omega)) rfl (N := 68) Tryz.ntmps17 rfl (go (N := 68) Tryz.ntmps17 300 ?_)
  rw [hn]
  simp only [go_sem, Nat.reduceAdd, Nat.reduceMul, Nat.reduceSub, Nat.reduceBEq, Nat.reduceLT, Nat.reduceLeDiff, reduceIte, reduceCtorEq, Int.reduceToNat, Int.reduceLE, Int.reduceLT, Int.reduceNe, Int.reduceMul, Int.reduceAdd, Int.reduceSub, Int.reduceDiv, Int.reduceMod, Int.reduceEq, Int.reduceGE, Int.reduceGT, Int.reduceNeg, Int.reduceBEq, Int.reduceBNe, Nat.reduceEqDiff, List.length_map]
  refine aloop (ι := Nat) (fun i => xs.length - i)
    (fun i => [(26, .int .i64 i), (25, .int .i64 xs.length), (24, .fz 5 (xs.map scA)), (7, .ptr 2 1 0 0), (4, .ptr 1 1 0 0), (2, .ptr 0 1 0 0), (1, .str name)])
    (fun i => [.arr 2 [.agg [.str ti, .fz 5 (xs.map scA)]], .arr 2 [.agg [.str [], .raw (.slice none 0 0)]], .arr 2 [.agg [.str ti, .sl 3 0 (sideTo xs name i).length (sideTo xs name i).length]], .arr 5 ((sideTo xs name i).map scA)]) (fun i => i ≤ xs.length) 0 (by simp) ?_ ?_
  · refine Shift.trans (Shift.cells 2 5 [.agg [.str ti, .sl 3 0 0 0]] rfl rfl (by simp [cellsOf]) ⟨.refl, .sl, trivial⟩) (Shift.weak ?_)
    simp only [wk, go_sem, Nat.reduceAdd, Nat.reduceMul, Nat.reduceSub, Nat.reduceBEq, Nat.reduceLT, Nat.reduceLeDiff, reduceIte, reduceCtorEq, Int.reduceToNat, Int.reduceLE, Int.reduceLT, Int.reduceNe, Int.reduceMul, Int.reduceAdd, Int.reduceSub, Int.reduceDiv, Int.reduceMod, Int.reduceEq, Int.reduceGE, Int.reduceGT, Int.reduceNeg, Int.reduceBEq, Int.reduceBNe, Nat.reduceEqDiff]
  · intro i g1 J hJ
    have hsl := sideTo_len xs name i
    by_cases gi : i < xs.length
    · have di : decide ((i : Int) < (xs.length : Int)) = true := by simp; omega
      have hgd : xs.getD i x0 = xs[i] := by simp [List.getD, gi]
      have hg' : List.getD (List.map scA xs) i .any = .agg [.str xs[i].no, .int .i64 xs[i].place, .str xs[i].set, .int .i64 xs[i].time, .fz 2 (xs[i].paras.map paA)] := by simp [List.getD, gi, scA]
      have hsc := ok_at _ _ _ t5 xs[i] (List.getElem_mem gi)
      have hsm := sum_ge xs xs[i] (List.getElem_mem gi)
      obtain ⟨e, hr, _, _⟩ := hsc.run
      have hcue := hasCue_pc xs[i] name (by omega)
      simp only [scA] at hcue
      have hpart := part_pc xs[i].paras name (by omega) (fun p hp => para_len (run_all _ _ _ hr p hp)) (by omega) (run_head hr)
      have hsu : sideTo xs name (i + 1) = sideTo xs name i ++ (if hasCueL xs[i] name then [sideS xs name (decide ((sideTo xs name i).length = 0)) i] else []) := by rw [sideTo, hgd]
      have hss : ∀ b, sideS xs name b i = { xs[i] with time := if xs[i].time == 5 && b then (timesTo xs xs.length).getD i 0 else xs[i].time, paras := partL xs[i].paras name } := fun b => by rw [sideS, hgd]
      have fin := hJ (i + 1) (by omega) (by omega)
      have e1 : (i : Int) + 1 = ((i + 1 : Nat) : Int) := by omega
      refine goF (N := 68) Tryz.ntmps17 300 ?_
      simp only [go_sem, Nat.reduceAdd, Nat.reduceMul, Nat.reduceSub, Nat.reduceBEq, Nat.reduceLT, Nat.reduceLeDiff, reduceIte, reduceCtorEq, Int.reduceToNat, Int.reduceLE, Int.reduceLT, Int.reduceNe, Int.reduceMul, Int.reduceAdd, Int.reduceSub, Int.reduceDiv, Int.reduceMod, Int.reduceEq, Int.reduceGE, Int.reduceGT, Int.reduceNeg, Int.reduceBEq, Int.reduceBNe, Nat.reduceEqDiff, di, hg', List.length_map]
      repeat refine And.intro (by first | omega | exact .inl trivial | (simp; done) | (simp; omega)) ?_
      refine pcall1 (hcue) rfl (N := 68) Tryz.ntmps17 rfl (goF (N := 68) Tryz.ntmps17 300 ?_)
      cases hc : hasCueL xs[i] name with
      | false =>
        have hs : sideTo xs name (i + 1) = sideTo xs name i := by rw [hsu, hc]; simp
        simp only [go_sem, Nat.reduceAdd, Nat.reduceMul, Nat.reduceSub, Nat.reduceBEq, Nat.reduceLT, Nat.reduceLeDiff, reduceIte, reduceCtorEq, Int.reduceToNat, Int.reduceLE, Int.reduceLT, Int.reduceNe, Int.reduceMul, Int.reduceAdd, Int.reduceSub, Int.reduceDiv, Int.reduceMod, Int.reduceEq, Int.reduceGE, Int.reduceGT, Int.reduceNeg, Int.reduceBEq, Int.reduceBNe, Nat.reduceEqDiff]
        repeat refine And.intro (by first | omega | exact .inl trivial | (simp; done) | (simp; omega)) ?_
        rw [← hs, e1]
        refine ainv fin (Shift.low 4 (by simp) (by simp) ?_ ?_)
        · have := frozen_scenes (sideTo xs name (i + 1))
          simp only [List.take_succ_cons, List.take_zero, List.all_cons, List.all_nil, lowB, flat, cellsOf, lowC, Av.frozen, decide_true, List.append_nil, List.cons_append, List.nil_append, low_all this, Nat.reduceLT, Bool.and_self]
        · simp only [wkl, lowV, lowC, Av.get, go_sem, Nat.reduceAdd, Nat.reduceMul, Nat.reduceSub, Nat.reduceBEq, Nat.reduceLT, Nat.reduceLeDiff, reduceIte, reduceCtorEq, Int.reduceToNat, Int.reduceLE, Int.reduceLT, Int.reduceNe, Int.reduceMul, Int.reduceAdd, Int.reduceSub, Int.reduceDiv, Int.reduceMod, Int.reduceEq, Int.reduceGE, Int.reduceGT, Int.reduceNeg, Int.reduceBEq, Int.reduceBNe, Nat.reduceEqDiff]
      | true =>
        cases e5 : xs[i].time == 5 with
        | false =>
          simp only [go_sem, Nat.reduceAdd, Nat.reduceMul, Nat.reduceSub, Nat.reduceBEq, Nat.reduceLT, Nat.reduceLeDiff, reduceIte, reduceCtorEq, Int.reduceToNat, Int.reduceLE, Int.reduceLT, Int.reduceNe, Int.reduceMul, Int.reduceAdd, Int.reduceSub, Int.reduceDiv, Int.reduceMod, Int.reduceEq, Int.reduceGE, Int.reduceGT, Int.reduceNeg, Int.reduceBEq, Int.reduceBNe, Nat.reduceEqDiff, e5]
          have hs : sideTo xs name (i + 1) = sideTo xs name i ++ [⟨xs[i].no, xs[i].place, xs[i].set, xs[i].time, partL xs[i].paras name⟩] := by rw [hsu, hc, hss]; simp [e5]
          repeat refine And.intro (by first | omega | exact .inl trivial | (simp; done) | (simp; omega)) ?_
          refine pcall1 (hpart) rfl (N := 68) Tryz.ntmps17 rfl (goF (N := 68) Tryz.ntmps17 300 ?_)
          simp only [go_sem, Nat.reduceAdd, Nat.reduceMul, Nat.reduceSub, Nat.reduceBEq, Nat.reduceLT, Nat.reduceLeDiff, reduceIte, reduceCtorEq, Int.reduceToNat, Int.reduceLE, Int.reduceLT, Int.reduceNe, Int.reduceMul, Int.reduceAdd, Int.reduceSub, Int.reduceDiv, Int.reduceMod, Int.reduceEq, Int.reduceGE, Int.reduceGT, Int.reduceNeg, Int.reduceBEq, Int.reduceBNe, Nat.reduceEqDiff]
          repeat refine And.intro (by first | omega | exact .inl trivial | (simp; done) | (simp; omega)) ?_
          rw [show List.map scA (sideTo xs name i) ++ [AV.agg [.str xs[i].no, .int .i64 xs[i].place, .str xs[i].set, .int .i64 (xs[i].time), .fz 2 (List.map paA (partL xs[i].paras name))]] = List.map scA (sideTo xs name (i + 1)) by rw [hs]; simp [scA], show (sideTo xs name i).length + 1 = (sideTo xs name (i + 1)).length by rw [hs]; simp, e1]
          refine ainv fin (Shift.low 4 (by simp) (by simp) ?_ ?_)
          · have := frozen_scenes (sideTo xs name (i + 1))
            simp only [List.take_succ_cons, List.take_zero, List.all_cons, List.all_nil, lowB, flat, cellsOf, lowC, Av.frozen, decide_true, List.append_nil, List.cons_append, List.nil_append, low_all this, Nat.reduceLT, Bool.and_self]
          · simp only [wkl, lowV, lowC, Av.get, go_sem, Nat.reduceAdd, Nat.reduceMul, Nat.reduceSub, Nat.reduceBEq, Nat.reduceLT, Nat.reduceLeDiff, reduceIte, reduceCtorEq, Int.reduceToNat, Int.reduceLE, Int.reduceLT, Int.reduceNe, Int.reduceMul, Int.reduceAdd, Int.reduceSub, Int.reduceDiv, Int.reduceMod, Int.reduceEq, Int.reduceGE, Int.reduceGT, Int.reduceNeg, Int.reduceBEq, Int.reduceBNe, Nat.reduceEqDiff]
        | true =>
          by_cases h0 : (sideTo xs name i).length = 0
          · have q0 : (((sideTo xs name i).length : Int) == 0) = true := by simpa using h0
            simp only [go_sem, Nat.reduceAdd, Nat.reduceMul, Nat.reduceSub, Nat.reduceBEq, Nat.reduceLT, Nat.reduceLeDiff, reduceIte, reduceCtorEq, Int.reduceToNat, Int.reduceLE, Int.reduceLT, Int.reduceNe, Int.reduceMul, Int.reduceAdd, Int.reduceSub, Int.reduceDiv, Int.reduceMod, Int.reduceEq, Int.reduceGE, Int.reduceGT, Int.reduceNeg, Int.reduceBEq, Int.reduceBNe, Nat.reduceEqDiff, e5, q0, List.length_map]
            repeat refine And.intro (by first | omega | exact .inl trivial | (simp; done) | (simp; omega)) ?_
            refine pcall1 (htm) rfl (N := 68) Tryz.ntmps17 rfl (goF (N := 68) Tryz.ntmps17 300 ?_)
            have hti : List.getD (List.map (AV.int .i64) (timesTo xs xs.length)) i .any = .int .i64 ((timesTo xs xs.length).getD i 0) := by simp [List.getD, timesTo_len, gi]
            have htl := timesTo_len xs xs.length
            simp only [go_sem, Nat.reduceAdd, Nat.reduceMul, Nat.reduceSub, Nat.reduceBEq, Nat.reduceLT, Nat.reduceLeDiff, reduceIte, reduceCtorEq, Int.reduceToNat, Int.reduceLE, Int.reduceLT, Int.reduceNe, Int.reduceMul, Int.reduceAdd, Int.reduceSub, Int.reduceDiv, Int.reduceMod, Int.reduceEq, Int.reduceGE, Int.reduceGT, Int.reduceNeg, Int.reduceBEq, Int.reduceBNe, Nat.reduceEqDiff, hti, List.length_map]
            have hs : sideTo xs name (i + 1) = sideTo xs name i ++ [⟨xs[i].no, xs[i].place, xs[i].set, (timesTo xs xs.length).getD i 0, partL xs[i].paras name⟩] := by rw [hsu, hc, hss]; simp [e5, h0]
            repeat refine And.intro (by first | omega | exact .inl trivial | (simp; done) | (simp; omega)) ?_
            refine pcall1 (hpart) rfl (N := 68) Tryz.ntmps17 rfl (goF (N := 68) Tryz.ntmps17 300 ?_)
            simp only [go_sem, Nat.reduceAdd, Nat.reduceMul, Nat.reduceSub, Nat.reduceBEq, Nat.reduceLT, Nat.reduceLeDiff, reduceIte, reduceCtorEq, Int.reduceToNat, Int.reduceLE, Int.reduceLT, Int.reduceNe, Int.reduceMul, Int.reduceAdd, Int.reduceSub, Int.reduceDiv, Int.reduceMod, Int.reduceEq, Int.reduceGE, Int.reduceGT, Int.reduceNeg, Int.reduceBEq, Int.reduceBNe, Nat.reduceEqDiff]
            repeat refine And.intro (by first | omega | exact .inl trivial | (simp; done) | (simp; omega)) ?_
            rw [show List.map scA (sideTo xs name i) ++ [AV.agg [.str xs[i].no, .int .i64 xs[i].place, .str xs[i].set, .int .i64 ((timesTo xs xs.length).getD i 0), .fz 2 (List.map paA (partL xs[i].paras name))]] = List.map scA (sideTo xs name (i + 1)) by rw [hs]; simp [scA], show (sideTo xs name i).length + 1 = (sideTo xs name (i + 1)).length by rw [hs]; simp, e1]
            refine ainv fin (Shift.low 4 (by simp) (by simp) ?_ ?_)
            · have := frozen_scenes (sideTo xs name (i + 1))
              simp only [List.take_succ_cons, List.take_zero, List.all_cons, List.all_nil, lowB, flat, cellsOf, lowC, Av.frozen, decide_true, List.append_nil, List.cons_append, List.nil_append, low_all this, Nat.reduceLT, Bool.and_self]
            · simp only [wkl, lowV, lowC, Av.get, go_sem, Nat.reduceAdd, Nat.reduceMul, Nat.reduceSub, Nat.reduceBEq, Nat.reduceLT, Nat.reduceLeDiff, reduceIte, reduceCtorEq, Int.reduceToNat, Int.reduceLE, Int.reduceLT, Int.reduceNe, Int.reduceMul, Int.reduceAdd, Int.reduceSub, Int.reduceDiv, Int.reduceMod, Int.reduceEq, Int.reduceGE, Int.reduceGT, Int.reduceNeg, Int.reduceBEq, Int.reduceBNe, Nat.reduceEqDiff]
          · have q0 : (((sideTo xs name i).length : Int) == 0) = false := by simpa using h0
            simp only [go_sem, Nat.reduceAdd, Nat.reduceMul, Nat.reduceSub, Nat.reduceBEq, Nat.reduceLT, Nat.reduceLeDiff, reduceIte, reduceCtorEq, Int.reduceToNat, Int.reduceLE, Int.reduceLT, Int.reduceNe, Int.reduceMul, Int.reduceAdd, Int.reduceSub, Int.reduceDiv, Int.reduceMod, Int.reduceEq, Int.reduceGE, Int.reduceGT, Int.reduceNeg, Int.reduceBEq, Int.reduceBNe, Nat.reduceEqDiff, e5, q0, List.length_map]
            have hs : sideTo xs name (i + 1) = sideTo xs name i ++ [⟨xs[i].no, xs[i].place, xs[i].set, xs[i].time, partL xs[i].paras name⟩] := by rw [hsu, hc, hss]; simp [e5, h0]
            repeat refine And.intro (by first | omega | exact .inl trivial | (simp; done) | (simp; omega)) ?_
            refine pcall1 (hpart) rfl (N := 68) Tryz.ntmps17 rfl (goF (N := 68) Tryz.ntmps17 300 ?_)
            simp only [go_sem, Nat.reduceAdd, Nat.reduceMul, Nat.reduceSub, Nat.reduceBEq, Nat.reduceLT, Nat.reduceLeDiff, reduceIte, reduceCtorEq, Int.reduceToNat, Int.reduceLE, Int.reduceLT, Int.reduceNe, Int.reduceMul, Int.reduceAdd, Int.reduceSub, Int.reduceDiv, Int.reduceMod, Int.reduceEq, Int.reduceGE, Int.reduceGT, Int.reduceNeg, Int.reduceBEq, Int.reduceBNe, Nat.reduceEqDiff]
            repeat refine And.intro (by first | omega | exact .inl trivial | (simp; done) | (simp; omega)) ?_
            rw [show List.map scA (sideTo xs name i) ++ [AV.agg [.str xs[i].no, .int .i64 xs[i].place, .str xs[i].set, .int .i64 (xs[i].time), .fz 2 (List.map paA (partL xs[i].paras name))]] = List.map scA (sideTo xs name (i + 1)) by rw [hs]; simp [scA], show (sideTo xs name i).length + 1 = (sideTo xs name (i + 1)).length by rw [hs]; simp, e1]
            refine ainv fin (Shift.low 4 (by simp) (by simp) ?_ ?_)
            · have := frozen_scenes (sideTo xs name (i + 1))
              simp only [List.take_succ_cons, List.take_zero, List.all_cons, List.all_nil, lowB, flat, cellsOf, lowC, Av.frozen, decide_true, List.append_nil, List.cons_append, List.nil_append, low_all this, Nat.reduceLT, Bool.and_self]
            · simp only [wkl, lowV, lowC, Av.get, go_sem, Nat.reduceAdd, Nat.reduceMul, Nat.reduceSub, Nat.reduceBEq, Nat.reduceLT, Nat.reduceLeDiff, reduceIte, reduceCtorEq, Int.reduceToNat, Int.reduceLE, Int.reduceLT, Int.reduceNe, Int.reduceMul, Int.reduceAdd, Int.reduceSub, Int.reduceDiv, Int.reduceMod, Int.reduceEq, Int.reduceGE, Int.reduceGT, Int.reduceNeg, Int.reduceBEq, Int.reduceBNe, Nat.reduceEqDiff]
    · have di : decide ((i : Int) < (xs.length : Int)) = false := by simp; omega
      have hi : i = xs.length := by omega
      have hnz : sideTo xs name xs.length ≠ [] := hne'
      subst hi
      have qz : (((sideTo xs name xs.length).length : Int) == 0) = false := by
        have : (sideTo xs name xs.length).length ≠ 0 := by simpa using hnz
        simp; omega
      refine AWp.shift (Shift.frz 3 rfl (frozen_scenes _)) ?_
      simp only [frzE, frz, frz1, frzB, List.map_cons, List.map_nil, List.set_cons_succ, List.set_cons_zero, Nat.reduceBEq, cond_true, cond_false, Bool.false_and, Bool.true_and, List.length_map, Nat.zero_add, decide_true, Nat.le_refl, List.drop_zero]
      have htk : List.take (sideTo xs name xs.length).length (List.map scA (sideTo xs name xs.length)) = List.map scA (sideTo xs name xs.length) := List.take_of_length_le (by simp)
      simp only [htk]
      refine goF (N := 68) Tryz.ntmps17 300 ?_
      simp only [go_sem, Nat.reduceAdd, Nat.reduceMul, Nat.reduceSub, Nat.reduceBEq, Nat.reduceLT, Nat.reduceLeDiff, reduceIte, reduceCtorEq, Int.reduceToNat, Int.reduceLE, Int.reduceLT, Int.reduceNe, Int.reduceMul, Int.reduceAdd, Int.reduceSub, Int.reduceDiv, Int.reduceMod, Int.reduceEq, Int.reduceGE, Int.reduceGT, Int.reduceNeg, Int.reduceBEq, Int.reduceBNe, Nat.reduceEqDiff, di, qz, List.length_map]
      exact aretc [.cell 4 37, .tmp 5] rfl [_, _] ⟨by simp only [go_sem, Nat.reduceAdd, Nat.reduceMul, Nat.reduceSub, Nat.reduceBEq, Nat.reduceLT, Nat.reduceLeDiff, reduceIte, reduceCtorEq, Int.reduceToNat, Int.reduceLE, Int.reduceLT, Int.reduceNe, Int.reduceMul, Int.reduceAdd, Int.reduceSub, Int.reduceDiv, Int.reduceMod, Int.reduceEq, Int.reduceGE, Int.reduceGT, Int.reduceNeg, Int.reduceBEq, Int.reduceBNe, Nat.reduceEqDiff, sideIs], rfl, trivial⟩ ⟨rfl, rfl⟩
end Go.Proofs.YtpjbbpilgfihbaaGreatDoor
/- Roles in a list. Own work of this seat. -/
set_option maxRecDepth 100000
set_option linter.unusedSimpArgs false
set_option linter.unusedVariables false
namespace Go.Proofs.YtpjbbpilgfihbaaGreatDoor
open Go Go.Av Go.RowKit
attribute [local go_sem ↓] br_true br_false dbr_true dbr_false dbri_true dbri_false dbrg_true dbrg_false
attribute [local go_sem] run cont br dbr dx dxc dgrd dyld dres dcall calm fieldPlace? allHas step1 opN grdN resN condN exitN stopN exitIt dOk xop xbin xint xarith xstr xbool xpick xnot xneg xextract xpart xpartOk xindex xfieldF fieldD xnew xbox xalloc xfieldAddr xptrAddIf xindexAddr xloadC xload putCells reElem xstoreB xstore xconv xtext xlen xlen2 xcall xfill xbuild cut rep xbuildSlice xbuildSliceD isRow elemD isU8 ev evs evp Go.Av.put Go.Av.get ofConst yldD yldV notBool_undef args0 cellsOf cond_true cond_false decide_true decide_false decide_eq_true_eq decide_eq_false_iff_not List.getElem?_cons_zero List.getElem?_cons_succ List.getElem?_nil List.getD_cons_zero List.getD_cons_succ List.getD_nil List.set_cons_zero List.set_cons_succ List.length_cons List.length_nil List.cons_append List.nil_append List.append_nil List.all_cons List.all_nil List.map_cons List.map_nil List.take_succ_cons List.take_zero List.drop_succ_cons List.drop_zero Bool.and_true Bool.true_and Bool.and_self Bool.and_false Bool.false_and one Go.Av.frozen beq_self_eq_true true_and and_true forall_const false_implies implies_true and_self Option.map_some Option.map_none Nat.zero_add Nat.add_zero Nat.zero_mul Nat.mul_one Nat.one_mul Int.toNat_zero ne_eq not_false_eq_true not_true_eq_false Bool.true_eq_false Bool.false_eq_true List.toList_toArray inr Go.Av.byteOf isByte decide_eq_decide Bool.not_true Bool.not_false Bool.not_eq_true' Bool.or_true Bool.true_or Bool.or_false Bool.false_or ge_iff_le gt_iff_lt and_assoc Bool.decide_eq_true beq_iff_eq beq_eq_false_iff_ne bne_iff_ne bne_self_eq_false if_true if_false Bool.and_eq_true Bool.or_eq_true Bool.and_eq_false_imp Bool.or_eq_false_iff Bool.not_eq_false' has Option.isSome_some Option.isSome_none Int.toNat_natCast Int.cast_ofNat_Int List.length_append xapp2 xapp xappS xappD xappB notInt srcOf srcB byteAV splice' xcut xcutS xcutF xcutB xcutN xcut0 cutL loOf hiOf evo xmake zelem xmax xcopy2 xcopyS xcopyB xnil xcut3 ixOf xclear2 xclearB List.getElem?_toArray xbin2 xnileq xempty xmkmap xmput xmputB xmputF isKey keyEq mfind xbin3 xeqs xeqop eqFs bothB leafEq xlook xlookB xlookF xbytes beq_c_n beq_n_c bne_c_n bne_n_c one_nil dxi dxic dbri rix dck reader blind opOk refOk Go.Op.operands Go.Call.operands List.contains_cons List.contains_nil dxg dxgc dbrg pck putD List.lookup_cons List.lookup_nil ts2 tb2 zl2 za2 Tryz.underlying2 ts3 tb3 zl3 za3 Tryz.underlying3 ts4 tb4 zl4 za4 Tryz.underlying4 ts5 tb5 zl5 za5 Tryz.underlying5 ts6 tb6 zl6 za6 Tryz.underlying6 ts7 tb7 za7 Tryz.underlying7 ts8 tb8 za8 Tryz.underlying8 ts9 tb9 zl9 za9 Tryz.underlying9 ts10 tb10 zl10 za10 Tryz.underlying10 ts11 tb11 zl11 za11 Tryz.underlying11 ts12 tb12 zl12 za12 Tryz.underlying12 ts13 tb13 za13 Tryz.underlying13 ts14 tb14 za14 Tryz.underlying14 ts18 tb18 za18 Tryz.underlying18 ts19 tb19 za19 Tryz.underlying19 ts21 tb21 zl21 za21 Tryz.underlying21 ts22 tb22 zl22 za22 Tryz.underlying22 ts24 tb24 za24 Tryz.underlying24 ts25 tb25 za25 Tryz.underlying25 ts27 tb27 zl27 za27 Tryz.underlying27 ts35 tb35 zl35 za35 Tryz.underlying35 ts36 tb36 za36 Tryz.underlying36 ts37 tb37 za37 Tryz.underlying37 ts39 tb39 zl39 za39 Tryz.underlying39 ts41 tb41 za41 Tryz.underlying41 ts42 tb42 za42 Tryz.underlying42 ts63 tb63 zl63 za63 Tryz.underlying63 ts64 tb64 zl64 za64 Tryz.underlying64 ts65 tb65 za65 Tryz.underlying65 ts66 tb66 za66 Tryz.underlying66 ts67 tb67 zl67 za67 Tryz.underlying67 ts69 tb69 za69 Tryz.underlying69 ts70 tb70 za70 Tryz.underlying70 ts73 tb73 za73 Tryz.underlying73 ts74 tb74 za74 Tryz.underlying74 ts75 tb75 zl75 za75 Tryz.underlying75 ts82 tb82 zl82 za82 Tryz.underlying82 ts96 tb96 za96 Tryz.underlying96 ts97 tb97 za97 Tryz.underlying97 ts103 tb103 za103 Tryz.underlying103 ts104 tb104 za104 Tryz.underlying104 ts109 tb109 zl109 za109 Tryz.underlying109 ts116 tb116 zl116 za116 Tryz.underlying116 ts117 tb117 za117 Tryz.underlying117 ts118 tb118 za118 Tryz.underlying118 ts120 tb120 zl120 za120 Tryz.underlying120 ts124 tb124 zl124 za124 Tryz.underlying124 ts126 tb126 za126 Tryz.underlying126 ts128 tb128 zl128 za128 Tryz.underlying128 ts130 tb130 za130 Tryz.underlying130 ts131 tb131 za131 Tryz.underlying131 ts153 tb153 zl153 za153 Tryz.underlying153 ts167 tb167 zl167 za167 Tryz.underlying167 ts171 tb171 zl171 za171 Tryz.underlying171 ts177 tb177 zl177 za177 Tryz.underlying177 ts183 tb183 zl183 za183 Tryz.underlying183 ts189 tb189 zl189 za189 Tryz.underlying189 ts191 tb191 zl191 za191 Tryz.underlying191 ts195 tb195 za195 Tryz.underlying195 ts196 tb196 za196 Tryz.underlying196 ts198 tb198 zl198 za198 Tryz.underlying198 ts203 tb203 Tryz.underlying203 ts209 tb209 za209 Tryz.underlying209 ts210 tb210 za210 Tryz.underlying210 ts211 tb211 Tryz.underlying211 ts216 tb216 za216 Tryz.underlying216 ts217 tb217 za217 Tryz.underlying217 ts220 tb220 Tryz.underlying220 ts225 tb225 Tryz.underlying225 ts226 tb226 Tryz.underlying226 ts227 tb227 za227 Tryz.underlying227 ts228 tb228 za228 Tryz.underlying228 ts232 tb232 zl232 za232 Tryz.underlying232 ts233 tb233 zl233 za233 Tryz.underlying233 ts235 tb235 zl235 za235 Tryz.underlying235 ts236 tb236 zl236 za236 Tryz.underlying236 ts237 tb237 za237 Tryz.underlying237 ts238 tb238 za238 Tryz.underlying238

structure Ro where
  name : List UInt8
  scenes : Int
  speeches : Int
  words : Int
  deriving DecidableEq
def roA (r : Ro) : AV := .agg [.str r.name, .int .i64 r.scenes, .int .i64 r.speeches, .int .i64 r.words]
theorem eqp42 : eqPlain Tryz.prog 42 = true := by kernel_rfl
def eqR (v p : Ro) : Bool := v.name == p.name && (v.scenes == p.scenes && (v.speeches == p.speeches && v.words == p.words))
theorem eqR_iff {v p : Ro} : eqR v p = true ↔ v = p := by
  cases v; cases p
  simp [eqR]
theorem frozen_roles (l : List Ro) : (flat (l.map roA)).all Av.frozen = true := by
  induction l with
  | nil => rfl
  | cons y l ih => simpa [flat, cellsOf, roA, Av.frozen] using ih

set_option maxHeartbeats 1000000 in
theorem index_role_pc (ps : List Ro) (v : Ro) (hl : ps.length < 1000000) : Pc Tryz.prog 50 [.fz 4 (ps.map roA), roA v] (fun r => ∃ n : Int, r = .int .i64 n ∧ decide (n ≥ 0) = ps.any (eqR v)) := by
  simp only [roA]
  refine pc_intro (ct_intro Tryz.func50 rfl Tryz.ntmps50 hB50 (by simp) fun h ρ w => go (N := 19) Tryz.ntmps50 300 ?_)
  simp only [go_sem, Nat.reduceAdd, Nat.reduceMul, Nat.reduceSub, Nat.reduceBEq, Nat.reduceLT, Nat.reduceLeDiff, reduceIte, reduceCtorEq, Int.reduceToNat, Int.reduceLE, Int.reduceLT, Int.reduceNe, Int.reduceMul, Int.reduceAdd, Int.reduceSub, Int.reduceDiv, Int.reduceMod, Int.reduceEq, Int.reduceGE, Int.reduceGT, Int.reduceNeg, Int.reduceBEq, Int.reduceBNe, Nat.reduceEqDiff, List.length_map]
  refine aloop (ι := Nat) (fun i => ps.length - i) (fun i => [(8, .int .i64 i), (7, .int .i64 ps.length), (3, .ptr 0 1 0 0), (0, .fz 4 (ps.map roA))]) (fun _ => [.arr 4 [.agg [.str v.name, .int .i64 v.scenes, .int .i64 v.speeches, .int .i64 v.words]]]) (fun i => i ≤ ps.length ∧ (ps.take i).any (eqR v) = false) 0 (by simp) ?_ ?_
  · refine Shift.weak ?_
    simp only [wk, go_sem, Nat.reduceAdd, Nat.reduceMul, Nat.reduceSub, Nat.reduceBEq, Nat.reduceLT, Nat.reduceLeDiff, reduceIte, reduceCtorEq, Int.reduceToNat, Int.reduceLE, Int.reduceLT, Int.reduceNe, Int.reduceMul, Int.reduceAdd, Int.reduceSub, Int.reduceDiv, Int.reduceMod, Int.reduceEq, Int.reduceGE, Int.reduceGT, Int.reduceNeg, Int.reduceBEq, Int.reduceBNe, Nat.reduceEqDiff]
    first | done | exact ⟨rfl, rfl⟩ | rfl
  · rintro i ⟨g1, g2⟩ J hJ
    by_cases gi : i < ps.length
    · have di : decide ((i : Int) < (ps.length : Int)) = true := by simp; omega
      have hg' : List.getD (List.map roA ps) i .any = .agg [.str ps[i].name, .int .i64 ps[i].scenes, .int .i64 ps[i].speeches, .int .i64 ps[i].words] := by simp [List.getD, gi, roA]
      have again : eqR v ps[i] = false → (ps.take (i + 1)).any (eqR v) = false := fun h => by
        rw [List.take_succ_eq_append_getElem gi, List.any_append, g2]
        simp [h]
      have hit : eqR v ps[i] = true → ps.any (eqR v) = true := fun h => List.any_eq_true.2 ⟨_, List.getElem_mem gi, h⟩
      unfold eqR at again hit
      cases e1 : v.name == ps[i].name <;> cases e2 : v.scenes == ps[i].scenes <;> cases e3 : v.speeches == ps[i].speeches <;> cases e4 : v.words == ps[i].words
      case true.true.true.true =>
        refine go (N := 19) Tryz.ntmps50 300 ?_
        simp only [go_sem, Nat.reduceAdd, Nat.reduceMul, Nat.reduceSub, Nat.reduceBEq, Nat.reduceLT, Nat.reduceLeDiff, reduceIte, reduceCtorEq, Int.reduceToNat, Int.reduceLE, Int.reduceLT, Int.reduceNe, Int.reduceMul, Int.reduceAdd, Int.reduceSub, Int.reduceDiv, Int.reduceMod, Int.reduceEq, Int.reduceGE, Int.reduceGT, Int.reduceNeg, Int.reduceBEq, Int.reduceBNe, Nat.reduceEqDiff, di]
        refine adraw [] mixed (by decide) (N := 19) Tryz.ntmps50 (by decide) 100 ?_
        simp only [go_sem, Nat.reduceAdd, Nat.reduceMul, Nat.reduceSub, Nat.reduceBEq, Nat.reduceLT, Nat.reduceLeDiff, reduceIte, reduceCtorEq, Int.reduceToNat, Int.reduceLE, Int.reduceLT, Int.reduceNe, Int.reduceMul, Int.reduceAdd, Int.reduceSub, Int.reduceDiv, Int.reduceMod, Int.reduceEq, Int.reduceGE, Int.reduceGT, Int.reduceNeg, Int.reduceBEq, Int.reduceBNe, Nat.reduceEqDiff, hg', List.length_map, e1, e2, e3, e4]
        repeat refine And.intro (by first | omega | exact eqp42 | simpa using gi) ?_
        refine go (N := 19) Tryz.ntmps50 300 ?_
        simp only [go_sem, Nat.reduceAdd, Nat.reduceMul, Nat.reduceSub, Nat.reduceBEq, Nat.reduceLT, Nat.reduceLeDiff, reduceIte, reduceCtorEq, Int.reduceToNat, Int.reduceLE, Int.reduceLT, Int.reduceNe, Int.reduceMul, Int.reduceAdd, Int.reduceSub, Int.reduceDiv, Int.reduceMod, Int.reduceEq, Int.reduceGE, Int.reduceGT, Int.reduceNeg, Int.reduceBEq, Int.reduceBNe, Nat.reduceEqDiff]
        refine aret [4] rfl ⟨⟨_, rfl, ?_⟩, rfl⟩
        have := hit (by rw [e1, e2, e3, e4]; rfl)
        unfold eqR
        rw [this]
        simp
      all_goals
        refine go (N := 19) Tryz.ntmps50 300 ?_
        simp only [go_sem, Nat.reduceAdd, Nat.reduceMul, Nat.reduceSub, Nat.reduceBEq, Nat.reduceLT, Nat.reduceLeDiff, reduceIte, reduceCtorEq, Int.reduceToNat, Int.reduceLE, Int.reduceLT, Int.reduceNe, Int.reduceMul, Int.reduceAdd, Int.reduceSub, Int.reduceDiv, Int.reduceMod, Int.reduceEq, Int.reduceGE, Int.reduceGT, Int.reduceNeg, Int.reduceBEq, Int.reduceBNe, Nat.reduceEqDiff, di]
        refine adraw [] mixed (by decide) (N := 19) Tryz.ntmps50 (by decide) 100 ?_
        simp only [go_sem, Nat.reduceAdd, Nat.reduceMul, Nat.reduceSub, Nat.reduceBEq, Nat.reduceLT, Nat.reduceLeDiff, reduceIte, reduceCtorEq, Int.reduceToNat, Int.reduceLE, Int.reduceLT, Int.reduceNe, Int.reduceMul, Int.reduceAdd, Int.reduceSub, Int.reduceDiv, Int.reduceMod, Int.reduceEq, Int.reduceGE, Int.reduceGT, Int.reduceNeg, Int.reduceBEq, Int.reduceBNe, Nat.reduceEqDiff, hg', List.length_map, e1, e2, e3, e4]
        repeat refine And.intro (by first | omega | exact eqp42 | simpa using gi) ?_
        refine go (N := 19) Tryz.ntmps50 300 ?_
        simp only [go_sem, Nat.reduceAdd, Nat.reduceMul, Nat.reduceSub, Nat.reduceBEq, Nat.reduceLT, Nat.reduceLeDiff, reduceIte, reduceCtorEq, Int.reduceToNat, Int.reduceLE, Int.reduceLT, Int.reduceNe, Int.reduceMul, Int.reduceAdd, Int.reduceSub, Int.reduceDiv, Int.reduceMod, Int.reduceEq, Int.reduceGE, Int.reduceGT, Int.reduceNeg, Int.reduceBEq, Int.reduceBNe, Nat.reduceEqDiff]
        repeat refine And.intro (by omega) ?_
        rw [show (i : Int) + 1 = ((i + 1 : Nat) : Int) by omega]
        refine ainv (hJ (i + 1) ⟨by omega, again (by rw [e1, e2, e3, e4]; rfl)⟩ (by omega)) (Shift.weak ?_)
        simp only [wk, go_sem, Nat.reduceAdd, Nat.reduceMul, Nat.reduceSub, Nat.reduceBEq, Nat.reduceLT, Nat.reduceLeDiff, reduceIte, reduceCtorEq, Int.reduceToNat, Int.reduceLE, Int.reduceLT, Int.reduceNe, Int.reduceMul, Int.reduceAdd, Int.reduceSub, Int.reduceDiv, Int.reduceMod, Int.reduceEq, Int.reduceGE, Int.reduceGT, Int.reduceNeg, Int.reduceBEq, Int.reduceBNe, Nat.reduceEqDiff]
    · have di : decide ((i : Int) < (ps.length : Int)) = false := by simp; omega
      rw [List.take_of_length_le (by omega)] at g2
      refine go (N := 19) Tryz.ntmps50 300 ?_
      simp only [go_sem, Nat.reduceAdd, Nat.reduceMul, Nat.reduceSub, Nat.reduceBEq, Nat.reduceLT, Nat.reduceLeDiff, reduceIte, reduceCtorEq, Int.reduceToNat, Int.reduceLE, Int.reduceLT, Int.reduceNe, Int.reduceMul, Int.reduceAdd, Int.reduceSub, Int.reduceDiv, Int.reduceMod, Int.reduceEq, Int.reduceGE, Int.reduceGT, Int.reduceNeg, Int.reduceBEq, Int.reduceBNe, Nat.reduceEqDiff, di]
      exact aret [4] rfl ⟨⟨_, rfl, by rw [g2]; rfl⟩, rfl⟩

theorem contains_role_pc (ps : List Ro) (v : Ro) (hl : ps.length < 1000000) : Pc Tryz.prog 18 [.fz 4 (ps.map roA), roA v] (· = .bool (ps.any (eqR v))) := by
  have hi := index_role_pc ps v hl
  simp only [roA] at hi ⊢
  refine pc_intro (ct_intro Tryz.func18 rfl Tryz.ntmps18 hB18 (by simp) fun h ρ w => go (N := 9) Tryz.ntmps18 300 ?_)
  simp only [go_sem, Nat.reduceAdd, Nat.reduceMul, Nat.reduceSub, Nat.reduceBEq, Nat.reduceLT, Nat.reduceLeDiff, reduceIte, reduceCtorEq, Int.reduceToNat, Int.reduceLE, Int.reduceLT, Int.reduceNe, Int.reduceMul, Int.reduceAdd, Int.reduceSub, Int.reduceDiv, Int.reduceMod, Int.reduceEq, Int.reduceGE, Int.reduceGT, Int.reduceNeg, Int.reduceBEq, Int.reduceBNe, Nat.reduceEqDiff]
  refine pcall (hi) rfl (N := 9) Tryz.ntmps18 rfl ?_
  rintro _ ⟨n, rfl, hn⟩
  refine go (N := 9) Tryz.ntmps18 300 ?_
  simp only [go_sem, Nat.reduceAdd, Nat.reduceMul, Nat.reduceSub, Nat.reduceBEq, Nat.reduceLT, Nat.reduceLeDiff, reduceIte, reduceCtorEq, Int.reduceToNat, Int.reduceLE, Int.reduceLT, Int.reduceNe, Int.reduceMul, Int.reduceAdd, Int.reduceSub, Int.reduceDiv, Int.reduceMod, Int.reduceEq, Int.reduceGE, Int.reduceGT, Int.reduceNeg, Int.reduceBEq, Int.reduceBNe, Nat.reduceEqDiff]
  exact aret [4] rfl ⟨by rw [← hn]; rfl, rfl⟩
end Go.Proofs.YtpjbbpilgfihbaaGreatDoor
/- The cast of a script: plain definitions. Own work of this seat. -/
set_option maxRecDepth 100000
set_option linter.unusedSimpArgs false
set_option linter.unusedVariables false
namespace Go.Proofs.YtpjbbpilgfihbaaGreatDoor
open Go Go.Av Go.RowKit

/-- a map from texts, as its entries -/
def mM (l : List (List UInt8 × AV)) : List (AV × AV) := l.map fun x => (.str x.1, x.2)
theorem mM_out {k : List UInt8} : ∀ {l : List (List UInt8 × AV)} {n : Nat}, (∀ x ∈ l, x.1 ≠ k) → mfind .string (.str k) (mM l) n = some none
  | [], n, _ => rfl
  | a :: r, n, h => by
    have : (k == a.1) = false := by simpa using fun e => h a (by simp) e.symm
    simp only [mM, List.map_cons, mfind, keyEq, this]
    exact mM_out fun x hx => h x (by simp [hx])
theorem mM_in {k : List UInt8} {v : AV} : ∀ {l : List (List UInt8 × AV)} {n j : Nat}, l[j]? = some (k, v) → (∀ j' x, j' < j → l[j']? = some x → x.1 ≠ k) → mfind .string (.str k) (mM l) n = some (some (n + j, v))
  | [], n, j, h, _ => by simp at h
  | a :: r, n, 0, h, _ => by
    simp only [List.getElem?_cons_zero, Option.some.injEq] at h
    subst h
    simp [mM, mfind, keyEq]
  | a :: r, n, j + 1, h, h2 => by
    have : (k == a.1) = false := by simpa using fun e => h2 0 a (by omega) rfl e.symm
    simp only [mM, List.map_cons, mfind, keyEq, this]
    have := mM_in (l := r) (n := n + 1) (j := j) (k := k) (v := v) (by simpa using h) (fun j' x hj hx => h2 (j' + 1) x (by omega) (by simpa using hx))
    rw [show n + (j + 1) = n + 1 + j by omega]
    exact this
theorem mM_set (l : List (List UInt8 × AV)) (j : Nat) (k : List UInt8) (v : AV) : (mM l).set j (.str k, v) = mM (l.set j (k, v)) := by simp [mM, List.map_set]
theorem mM_app (l : List (List UInt8 × AV)) (k : List UInt8) (v : AV) : mM l ++ [(.str k, v)] = mM (l ++ [(k, v)]) := by simp [mM]

/-- a role, and the scene in which it was counted last -/
structure En where
  role : Ro
  last : Int
def placeP (es : List En) : List (List UInt8 × AV) := es.mapIdx fun i e => (e.role.name, .int .i64 (i : Int))
def lastP (es : List En) : List (List UInt8 × AV) := es.map fun e => (e.role.name, .int .i64 e.last)
def e0 : En := ⟨⟨[], 0, 0, 0⟩, 0⟩
def putCue (es : List En) (k : Nat) (i : Int) : List En :=
  es.set k ⟨{ (es.getD k e0).role with scenes := (es.getD k e0).role.scenes + (if (es.getD k e0).last == i then 0 else 1), speeches := (es.getD k e0).role.speeches + 1 }, i⟩
def cueAt (es : List En) (name : List UInt8) : Nat := es.findIdx fun e => e.role.name == name
def castStep (i : Int) (s : List En × Nat) (p : Pa) : List En × Nat :=
  if p.kind == 2 then
    let es1 := if cueAt s.1 p.text < s.1.length then s.1 else s.1 ++ [⟨⟨p.text, 0, 0, 0⟩, -1⟩]
    (putCue es1 (cueAt s.1 p.text) i, cueAt s.1 p.text)
  else if p.kind == 4 then
    (s.1.set s.2 { s.1.getD s.2 e0 with role := { (s.1.getD s.2 e0).role with words := (s.1.getD s.2 e0).role.words + ((wordsL p.text).length : Int) } }, s.2)
  else s
def castScene (i : Int) (es : List En) (x : Sc) : List En := (x.paras.foldl (castStep i) (es, 0)).1
def castFrom : Int → List En → List Sc → List En
  | _, es, [] => es
  | i, es, x :: r => castFrom (i + 1) (castScene i es x) r
def castL (x : Sr) : List Ro := (castFrom 0 [] x.scenes).map (·.role)

theorem cueAt_le (es : List En) (name : List UInt8) : cueAt es name ≤ es.length := List.findIdx_le_length
theorem cueAt_hit {es : List En} {name : List UInt8} (h : cueAt es name < es.length) : es[cueAt es name].role.name = name := by
  have := List.findIdx_getElem (p := fun e : En => e.role.name == name) (w := h)
  exact eq_of_beq this
theorem cueAt_before {es : List En} {name : List UInt8} {j : Nat} (hj : j < cueAt es name) (hl : j < es.length) : es[j].role.name ≠ name := by
  have := List.not_of_lt_findIdx (p := fun e : En => e.role.name == name) hj
  simpa using this
theorem cueAt_miss {es : List En} {name : List UInt8} (h : ¬ cueAt es name < es.length) : ∀ e ∈ es, e.role.name ≠ name := by
  intro e he hn
  apply h
  exact List.findIdx_lt_length_of_exists ⟨e, he, by simpa using hn⟩

theorem place_out {es : List En} {name : List UInt8} (h : ¬ cueAt es name < es.length) (n : Nat) : mfind .string (.str name) (mM (placeP es)) n = some none := by
  refine mM_out fun x hx => ?_
  simp only [placeP, List.mem_mapIdx] at hx
  obtain ⟨i, hi, rfl⟩ := hx
  exact cueAt_miss h _ (List.getElem_mem hi)
theorem place_in {es : List En} {name : List UInt8} (h : cueAt es name < es.length) : mfind .string (.str name) (mM (placeP es)) 0 = some (some (cueAt es name, .int .i64 (cueAt es name : Int))) := by
  have := mM_in (k := name) (v := .int .i64 (cueAt es name : Int)) (l := placeP es) (n := 0) (j := cueAt es name) (by
    simp only [placeP, List.getElem?_mapIdx, List.getElem?_eq_getElem h, Option.map_some, cueAt_hit h]) (fun j' x hj hx => by
    simp only [placeP, List.getElem?_mapIdx, Option.map_eq_some_iff] at hx
    obtain ⟨e, he, rfl⟩ := hx
    obtain ⟨hl, rfl⟩ := List.getElem?_eq_some_iff.1 he
    exact cueAt_before hj hl)
  simpa using this
theorem last_in {es : List En} {name : List UInt8} (h : cueAt es name < es.length) : mfind .string (.str name) (mM (lastP es)) 0 = some (some (cueAt es name, .int .i64 (es[cueAt es name].last))) := by
  have := mM_in (k := name) (v := .int .i64 (es[cueAt es name].last)) (l := lastP es) (n := 0) (j := cueAt es name) (by
    simp only [lastP, List.getElem?_map, List.getElem?_eq_getElem h, Option.map_some, cueAt_hit h]) (fun j' x hj hx => by
    simp only [lastP, List.getElem?_map, Option.map_eq_some_iff] at hx
    obtain ⟨e, he, rfl⟩ := hx
    obtain ⟨hl, rfl⟩ := List.getElem?_eq_some_iff.1 he
    exact cueAt_before hj hl)
  simpa using this
theorem last_out {es : List En} {name : List UInt8} (h : ¬ cueAt es name < es.length) (n : Nat) : mfind .string (.str name) (mM (lastP es)) n = some none := by
  refine mM_out fun x hx => ?_
  simp only [lastP, List.mem_map] at hx
  obtain ⟨e, he, rfl⟩ := hx
  exact cueAt_miss h _ he
end Go.Proofs.YtpjbbpilgfihbaaGreatDoor
/- The cast of a script, walked. Own work of this seat. -/
set_option maxRecDepth 100000
set_option linter.unusedSimpArgs false
set_option linter.unusedVariables false
namespace Go.Proofs.YtpjbbpilgfihbaaGreatDoor
open Go Go.Av Go.RowKit
attribute [local go_sem ↓] br_true br_false dbr_true dbr_false dbri_true dbri_false dbrg_true dbrg_false
attribute [local go_sem] run cont br dbr dx dxc dgrd dyld dres dcall calm fieldPlace? allHas step1 opN grdN resN condN exitN stopN exitIt dOk xop xbin xint xarith xstr xbool xpick xnot xneg xextract xpart xpartOk xindex xfieldF fieldD xnew xbox xalloc xfieldAddr xptrAddIf xindexAddr xloadC xload putCells reElem xstoreB xstore xconv xtext xlen xlen2 xcall xfill xbuild cut rep xbuildSlice xbuildSliceD isRow elemD isU8 ev evs evp Go.Av.put Go.Av.get ofConst yldD yldV notBool_undef args0 cellsOf cond_true cond_false decide_true decide_false decide_eq_true_eq decide_eq_false_iff_not List.getElem?_cons_zero List.getElem?_cons_succ List.getElem?_nil List.getD_cons_zero List.getD_cons_succ List.getD_nil List.set_cons_zero List.set_cons_succ List.length_cons List.length_nil List.cons_append List.nil_append List.append_nil List.all_cons List.all_nil List.map_cons List.map_nil List.take_succ_cons List.take_zero List.drop_succ_cons List.drop_zero Bool.and_true Bool.true_and Bool.and_self Bool.and_false Bool.false_and one Go.Av.frozen beq_self_eq_true true_and and_true forall_const false_implies implies_true and_self Option.map_some Option.map_none Nat.zero_add Nat.add_zero Nat.zero_mul Nat.mul_one Nat.one_mul Int.toNat_zero ne_eq not_false_eq_true not_true_eq_false Bool.true_eq_false Bool.false_eq_true List.toList_toArray inr Go.Av.byteOf isByte decide_eq_decide Bool.not_true Bool.not_false Bool.not_eq_true' Bool.or_true Bool.true_or Bool.or_false Bool.false_or ge_iff_le gt_iff_lt and_assoc Bool.decide_eq_true beq_iff_eq beq_eq_false_iff_ne bne_iff_ne bne_self_eq_false if_true if_false Bool.and_eq_true Bool.or_eq_true Bool.and_eq_false_imp Bool.or_eq_false_iff Bool.not_eq_false' has Option.isSome_some Option.isSome_none Int.toNat_natCast Int.cast_ofNat_Int List.length_append xapp2 xapp xappS xappD xappB notInt srcOf srcB byteAV splice' xcut xcutS xcutF xcutB xcutN xcut0 cutL loOf hiOf evo xmake zelem xmax xcopy2 xcopyS xcopyB xnil xcut3 ixOf xclear2 xclearB List.getElem?_toArray xbin2 xnileq xempty xmkmap xmput xmputB xmputF isKey keyEq mfind xbin3 xeqs xeqop eqFs bothB leafEq xlook xlookB xlookF xbytes beq_c_n beq_n_c bne_c_n bne_n_c one_nil dxi dxic dbri rix dck reader blind opOk refOk Go.Op.operands Go.Call.operands List.contains_cons List.contains_nil dxg dxgc dbrg pck putD List.lookup_cons List.lookup_nil ts2 tb2 zl2 za2 Tryz.underlying2 ts3 tb3 zl3 za3 Tryz.underlying3 ts4 tb4 zl4 za4 Tryz.underlying4 ts5 tb5 zl5 za5 Tryz.underlying5 ts6 tb6 zl6 za6 Tryz.underlying6 ts7 tb7 za7 Tryz.underlying7 ts8 tb8 za8 Tryz.underlying8 ts9 tb9 zl9 za9 Tryz.underlying9 ts10 tb10 zl10 za10 Tryz.underlying10 ts11 tb11 zl11 za11 Tryz.underlying11 ts12 tb12 zl12 za12 Tryz.underlying12 ts13 tb13 za13 Tryz.underlying13 ts14 tb14 za14 Tryz.underlying14 ts18 tb18 za18 Tryz.underlying18 ts19 tb19 za19 Tryz.underlying19 ts21 tb21 zl21 za21 Tryz.underlying21 ts22 tb22 zl22 za22 Tryz.underlying22 ts24 tb24 za24 Tryz.underlying24 ts25 tb25 za25 Tryz.underlying25 ts27 tb27 zl27 za27 Tryz.underlying27 ts35 tb35 zl35 za35 Tryz.underlying35 ts36 tb36 za36 Tryz.underlying36 ts37 tb37 za37 Tryz.underlying37 ts39 tb39 zl39 za39 Tryz.underlying39 ts41 tb41 za41 Tryz.underlying41 ts42 tb42 za42 Tryz.underlying42 ts63 tb63 zl63 za63 Tryz.underlying63 ts64 tb64 zl64 za64 Tryz.underlying64 ts65 tb65 za65 Tryz.underlying65 ts66 tb66 za66 Tryz.underlying66 ts67 tb67 zl67 za67 Tryz.underlying67 ts69 tb69 za69 Tryz.underlying69 ts70 tb70 za70 Tryz.underlying70 ts73 tb73 za73 Tryz.underlying73 ts74 tb74 za74 Tryz.underlying74 ts75 tb75 zl75 za75 Tryz.underlying75 ts82 tb82 zl82 za82 Tryz.underlying82 ts96 tb96 za96 Tryz.underlying96 ts97 tb97 za97 Tryz.underlying97 ts103 tb103 za103 Tryz.underlying103 ts104 tb104 za104 Tryz.underlying104 ts109 tb109 zl109 za109 Tryz.underlying109 ts116 tb116 zl116 za116 Tryz.underlying116 ts117 tb117 za117 Tryz.underlying117 ts118 tb118 za118 Tryz.underlying118 ts120 tb120 zl120 za120 Tryz.underlying120 ts124 tb124 zl124 za124 Tryz.underlying124 ts126 tb126 za126 Tryz.underlying126 ts128 tb128 zl128 za128 Tryz.underlying128 ts130 tb130 za130 Tryz.underlying130 ts131 tb131 za131 Tryz.underlying131 ts153 tb153 zl153 za153 Tryz.underlying153 ts167 tb167 zl167 za167 Tryz.underlying167 ts171 tb171 zl171 za171 Tryz.underlying171 ts177 tb177 zl177 za177 Tryz.underlying177 ts183 tb183 zl183 za183 Tryz.underlying183 ts189 tb189 zl189 za189 Tryz.underlying189 ts191 tb191 zl191 za191 Tryz.underlying191 ts195 tb195 za195 Tryz.underlying195 ts196 tb196 za196 Tryz.underlying196 ts198 tb198 zl198 za198 Tryz.underlying198 ts203 tb203 Tryz.underlying203 ts209 tb209 za209 Tryz.underlying209 ts210 tb210 za210 Tryz.underlying210 ts211 tb211 Tryz.underlying211 ts216 tb216 za216 Tryz.underlying216 ts217 tb217 za217 Tryz.underlying217 ts220 tb220 Tryz.underlying220 ts225 tb225 Tryz.underlying225 ts226 tb226 Tryz.underlying226 ts227 tb227 za227 Tryz.underlying227 ts228 tb228 za228 Tryz.underlying228 ts232 tb232 zl232 za232 Tryz.underlying232 ts233 tb233 zl233 za233 Tryz.underlying233 ts235 tb235 zl235 za235 Tryz.underlying235 ts236 tb236 zl236 za236 Tryz.underlying236 ts237 tb237 za237 Tryz.underlying237 ts238 tb238 za238 Tryz.underlying238

/-- bounds of what is counted -/
def Bd (c : Nat) (es : List En) : Prop := es.length ≤ c ∧ ∀ e ∈ es, (0 ≤ e.role.scenes ∧ e.role.scenes ≤ c) ∧ (0 ≤ e.role.speeches ∧ e.role.speeches ≤ c) ∧ (0 ≤ e.role.words ∧ e.role.words ≤ 2001 * c)
theorem Bd.mono {c d : Nat} {es : List En} (h : Bd c es) (hd : c ≤ d) : Bd d es :=
  ⟨by have := h.1; omega, fun e he => by have := h.2 e he; omega⟩
theorem Bd.at {c : Nat} {es : List En} (h : Bd c es) {k : Nat} (hk : k < es.length) : (0 ≤ (es.getD k e0).role.scenes ∧ (es.getD k e0).role.scenes ≤ c) ∧ (0 ≤ (es.getD k e0).role.speeches ∧ (es.getD k e0).role.speeches ≤ c) ∧ (0 ≤ (es.getD k e0).role.words ∧ (es.getD k e0).role.words ≤ 2001 * c) := by
  have : es.getD k e0 = es[k] := by simp [List.getD, hk]
  rw [this]; exact h.2 _ (List.getElem_mem hk)
theorem Bd.set {c : Nat} {es : List En} (h : Bd c es) (k : Nat) (e : En) (he : (0 ≤ e.role.scenes ∧ e.role.scenes ≤ c) ∧ (0 ≤ e.role.speeches ∧ e.role.speeches ≤ c) ∧ (0 ≤ e.role.words ∧ e.role.words ≤ 2001 * c)) : Bd c (es.set k e) :=
  ⟨by simpa using h.1, fun x hx => by
    rcases List.mem_or_eq_of_mem_set hx with h1 | h1
    · exact h.2 x h1
    · rw [h1]; exact he⟩

def castBlks (ti : List UInt8) (xs : List Sc) (es : List En) : List Blk :=
  [.arr 2 [.agg [.str ti, .fz 5 (xs.map scA)]], .mp (mM (placeP es)), .mp (mM (lastP es)), .arr 4 ((es.map (·.role)).map roA)]
theorem mM_frozen {l : List (List UInt8 × AV)} (h : ∀ x ∈ l, Av.frozen x.2 = true) : (mM l).all (fun x => Av.frozen x.1 && Av.frozen x.2) = true := by
  rw [List.all_eq_true]
  intro x hx
  simp only [mM, List.mem_map] at hx
  obtain ⟨y, hy, rfl⟩ := hx
  show (true && Av.frozen y.2) = true
  rw [h y hy]; rfl
theorem low_place (n : Nat) (es : List En) : lowB n (.mp (mM (placeP es))) = true := mM_frozen fun x hx => by
  simp only [placeP, List.mem_mapIdx] at hx
  obtain ⟨i, hi, rfl⟩ := hx
  rfl
theorem low_last (n : Nat) (es : List En) : lowB n (.mp (mM (lastP es))) = true := mM_frozen fun x hx => by
  simp only [lastP, List.mem_map] at hx
  obtain ⟨e, he, rfl⟩ := hx
  rfl
theorem low_roles (n : Nat) (l : List Ro) : lowB n (.arr 4 (l.map roA)) = true := low_all (frozen_roles l)
theorem low_box (n : Nat) (ti : List UInt8) (l : List AV) : lowB n (.arr 2 [.agg [.str ti, .fz 5 l]]) = true := rfl
theorem low_cast (ti : List UInt8) (xs : List Sc) (es : List En) : (castBlks ti xs es).all (lowB 4) = true := by
  simp only [castBlks, List.all_cons, List.all_nil, low_place, low_last, low_roles, low_box, Bool.and_self]

theorem roles_set (es : List En) (k : Nat) (e : En) (r : Ro) (h : e.role = r) : ((es.map (·.role)).map roA).set k (roA r) = ((es.set k e).map (·.role)).map roA := by
  subst h
  simp [List.map_set]
theorem roles_at {es : List En} {k : Nat} (h : k < es.length) : List.getD ((es.map (·.role)).map roA) k .any = .agg [.str (es.getD k e0).role.name, .int .i64 (es.getD k e0).role.scenes, .int .i64 (es.getD k e0).role.speeches, .int .i64 (es.getD k e0).role.words] := by
  simp [List.getD, h, roA]

theorem put_len (es : List En) (k : Nat) (i : Int) : (putCue es k i).length = es.length := by simp [putCue]
theorem put_place {es : List En} {k : Nat} (h : k < es.length) (i : Int) : placeP (putCue es k i) = placeP es := by
  apply List.ext_getElem?
  intro j
  simp only [placeP, List.getElem?_mapIdx, putCue, List.getElem?_set]
  split
  · rename_i hj
    subst hj
    simp [h, List.getD]
  · rfl
theorem put_last {es : List En} {k : Nat} (h : k < es.length) (i : Int) {t : List UInt8} (ht : es[k].role.name = t) : (mM (lastP es)).set k (.str t, .int .i64 i) = mM (lastP (putCue es k i)) := by
  rw [mM_set]
  congr 1
  simp only [lastP, putCue, List.map_set]
  congr 2
  simp [List.getD, h, ht]
theorem put_roles {es : List En} {k : Nat} (h : k < es.length) (i : Int) (b : Int) (hb : b = (es.getD k e0).role.scenes + (if (es.getD k e0).last == i then 0 else 1)) :
    (List.map roA (List.map (fun x => x.role) es)).set k (.agg [.str (es.getD k e0).role.name, .int .i64 b, .int .i64 ((es.getD k e0).role.speeches + 1), .int .i64 (es.getD k e0).role.words]) = List.map roA (List.map (fun x => x.role) (putCue es k i)) := by
  subst hb
  simp only [putCue, List.map_set, roA]
theorem put_bd {c : Nat} {es : List En} {k : Nat} (hb : Bd c es) (h : k < es.length) (i : Int) : Bd (c + 1) (putCue es k i) := by
  have := hb.at h
  refine (hb.mono (Nat.le_succ c)).set k _ ?_
  simp only
  split <;> omega

def newE (es : List En) (t : List UInt8) : List En := es ++ [⟨⟨t, 0, 0, 0⟩, -1⟩]
theorem new_place (es : List En) (t : List UInt8) : mM (placeP es) ++ [(.str t, .int .i64 (es.length : Int))] = mM (placeP (newE es t)) := by
  rw [mM_app]
  congr 1
  simp [placeP, newE, List.mapIdx_append]
theorem new_last (es : List En) (t : List UInt8) : mM (lastP es) ++ [(.str t, .int .i64 (-1))] = mM (lastP (newE es t)) := by
  rw [mM_app]
  congr 1
  simp [lastP, newE]
theorem new_roles (es : List En) (t : List UInt8) : List.map roA (List.map (fun x => x.role) es) ++ [.agg [.str t, .int .i64 0, .int .i64 0, .int .i64 0]] = List.map roA (List.map (fun x => x.role) (newE es t)) := by
  simp [newE, roA]
theorem new_find {es : List En} {t : List UInt8} (h : ¬ cueAt es t < es.length) : mfind .string (.str t) (mM (lastP (newE es t))) 0 = some (some (es.length, .int .i64 (-1))) := by
  have := mM_in (k := t) (v := .int .i64 (-1)) (l := lastP (newE es t)) (n := 0) (j := es.length) (by simp [lastP, newE]) (fun j' x hj hx => by
    simp only [lastP, List.getElem?_map, Option.map_eq_some_iff] at hx
    obtain ⟨e, he, rfl⟩ := hx
    rw [newE, List.getElem?_append_left hj] at he
    exact cueAt_miss h _ (List.mem_of_getElem? he))
  simpa using this
theorem new_bd {c : Nat} {es : List En} (hb : Bd c es) (t : List UInt8) (i : Int) : Bd (c + 1) (putCue (newE es t) es.length i) := by
  have h1 : (newE es t).getD es.length e0 = ⟨⟨t, 0, 0, 0⟩, -1⟩ := by simp [newE, List.getD]
  have h2 : Bd (c + 1) (newE es t) := ⟨by have := hb.1; simp [newE]; omega, fun e he => by
    rcases List.mem_append.1 he with he | he
    · have := hb.2 e he; omega
    · rw [List.mem_singleton.1 he]; simp; omega⟩
  refine h2.set es.length _ ?_
  rw [h1]
  simp only
  split <;> simp <;> omega
def wordE (es : List En) (k : Nat) (t : List UInt8) : List En := es.set k { es.getD k e0 with role := { (es.getD k e0).role with words := (es.getD k e0).role.words + ((wordsL t).length : Int) } }
theorem word_place {es : List En} {k : Nat} (h : k < es.length) (t : List UInt8) : placeP (wordE es k t) = placeP es := by
  apply List.ext_getElem?
  intro j
  simp only [placeP, List.getElem?_mapIdx, wordE, List.getElem?_set]
  split
  · rename_i hj
    subst hj
    simp [h, List.getD]
  · rfl
theorem word_last {es : List En} {k : Nat} (h : k < es.length) (t : List UInt8) : lastP (wordE es k t) = lastP es := by
  apply List.ext_getElem?
  intro j
  simp only [lastP, List.getElem?_map, wordE, List.getElem?_set]
  split
  · rename_i hj
    subst hj
    simp [h, List.getD]
  · rfl
theorem word_roles (es : List En) (k : Nat) (t : List UInt8) :
    (List.map roA (List.map (fun x => x.role) es)).set k (.agg [.str (es.getD k e0).role.name, .int .i64 (es.getD k e0).role.scenes, .int .i64 (es.getD k e0).role.speeches, .int .i64 ((es.getD k e0).role.words + ((wordsL t).length : Int))]) = List.map roA (List.map (fun x => x.role) (wordE es k t)) := by
  simp only [wordE, List.map_set, roA]
theorem word_bd {c : Nat} {es : List En} {k : Nat} (hb : Bd c es) (h : k < es.length) {t : List UInt8} (ht : t.length ≤ 2000) : Bd (c + 1) (wordE es k t) := by
  have := hb.at h
  have := wordsL_len t
  refine (hb.mono (Nat.le_succ c)).set k _ ?_
  simp only
  omega

set_option maxHeartbeats 8000000 in
theorem cast_pch {S : Std} (hS : LibOk S) (x : Sr) (hx : ScriptOk x) : PcH Tryz.prog S 16 [srA x] (· = .tup [.fz 4 ((castL x).map roA), .int .i64 0]) := by
  have hck := check_pch hS x hx
  obtain ⟨ti, xs⟩ := x
  have t3 := hx.len
  have t4 := hx.many
  have t5 := hx.ok
  simp only at t3 t4 t5
  simp only [srA] at hck ⊢
  refine pch_intro (cth_intro Tryz.func16 rfl Tryz.ntmps16 hB16 (by simp) fun h ρ w hg => goF (N := 109) Tryz.ntmps16 300 ?_)
  simp only [go_sem, Nat.reduceAdd, Nat.reduceMul, Nat.reduceSub, Nat.reduceBEq, Nat.reduceLT, Nat.reduceLeDiff, reduceIte, reduceCtorEq, Int.reduceToNat, Int.reduceLE, Int.reduceLT, Int.reduceNe, Int.reduceMul, Int.reduceAdd, Int.reduceSub, Int.reduceDiv, Int.reduceMod, Int.reduceEq, Int.reduceGE, Int.reduceGT, Int.reduceNeg, Int.reduceBEq, Int.reduceBNe, Nat.reduceEqDiff]
  refine pcallH1 hg (hck) rfl (N := 109) Tryz.ntmps16 rfl (goF (N := 109) Tryz.ntmps16 300 ?_)
  simp only [go_sem, Nat.reduceAdd, Nat.reduceMul, Nat.reduceSub, Nat.reduceBEq, Nat.reduceLT, Nat.reduceLeDiff, reduceIte, reduceCtorEq, Int.reduceToNat, Int.reduceLE, Int.reduceLT, Int.reduceNe, Int.reduceMul, Int.reduceAdd, Int.reduceSub, Int.reduceDiv, Int.reduceMod, Int.reduceEq, Int.reduceGE, Int.reduceGT, Int.reduceNeg, Int.reduceBEq, Int.reduceBNe, Nat.reduceEqDiff, List.length_map]
  refine aloop (ι := Nat × List En) (fun y => xs.length - y.1)
    (fun y => [(25, .int .i64 y.1), (24, .int .i64 xs.length), (23, .fz 5 (xs.map scA)), (7, .mp 2), (6, .mp 1), (5, .sl 3 0 y.2.length y.2.length)])
    (fun y => castBlks ti xs y.2) (fun y => y.1 ≤ xs.length ∧ Bd (paraSum (xs.take y.1)) y.2 ∧ (castFrom y.1 y.2 (xs.drop y.1)) = castFrom 0 [] xs) (0, []) ⟨by simp, ⟨by simp, by simp⟩, rfl⟩ ?_ ?_
  · refine Shift.trans (Shift.nilsl 5 4 rfl) (Shift.weak ?_)
    simp only [wk, go_sem, Nat.reduceAdd, Nat.reduceMul, Nat.reduceSub, Nat.reduceBEq, Nat.reduceLT, Nat.reduceLeDiff, reduceIte, reduceCtorEq, Int.reduceToNat, Int.reduceLE, Int.reduceLT, Int.reduceNe, Int.reduceMul, Int.reduceAdd, Int.reduceSub, Int.reduceDiv, Int.reduceMod, Int.reduceEq, Int.reduceGE, Int.reduceGT, Int.reduceNeg, Int.reduceBEq, Int.reduceBNe, Nat.reduceEqDiff]
  · rintro ⟨i, es⟩ ⟨g1, g2, g3⟩ J hJ
    simp only at g1 g2 g3 hJ ⊢
    by_cases gi : i < xs.length
    · have di : decide ((i : Int) < (xs.length : Int)) = true := by simp; omega
      have hg' : List.getD (List.map scA xs) i .any = .agg [.str xs[i].no, .int .i64 xs[i].place, .str xs[i].set, .int .i64 xs[i].time, .fz 2 (xs[i].paras.map paA)] := by simp [List.getD, gi, scA]
      have hsc := ok_at _ _ _ t5 xs[i] (List.getElem_mem gi)
      obtain ⟨e, hr, _, _⟩ := hsc.run
      have hst := paraSum_take xs i gi
      have hle := paraSum_take_le xs (i + 1)
      refine goF (N := 109) Tryz.ntmps16 300 ?_
      simp only [castBlks]
      simp only [go_sem, Nat.reduceAdd, Nat.reduceMul, Nat.reduceSub, Nat.reduceBEq, Nat.reduceLT, Nat.reduceLeDiff, reduceIte, reduceCtorEq, Int.reduceToNat, Int.reduceLE, Int.reduceLT, Int.reduceNe, Int.reduceMul, Int.reduceAdd, Int.reduceSub, Int.reduceDiv, Int.reduceMod, Int.reduceEq, Int.reduceGE, Int.reduceGT, Int.reduceNeg, Int.reduceBEq, Int.reduceBNe, Nat.reduceEqDiff, di, hg', List.length_map]
      repeat refine And.intro (by first | omega | exact .inl trivial | (simp; done) | (simp; omega)) ?_
      generalize hps : xs[i] = sc at *
      have hcf : castFrom ((i + 1 : Nat) : Int) (castScene i es sc) (xs.drop (i + 1)) = castFrom 0 [] xs := by
        rw [← g3, List.drop_eq_getElem_cons gi, hps, castFrom]
        rfl
      refine aloop (ι := Nat × List En × Nat × Int) (fun y => sc.paras.length - y.1)
        (fun y => [(33, .int .i64 y.1), (32, .int .i64 sc.paras.length), (31, .fz 2 (sc.paras.map paA)), (25, .int .i64 i), (24, .int .i64 xs.length), (23, .fz 5 (xs.map scA)), (10, .int .i64 y.2.2.1), (8, .int .i64 i), (7, .mp 2), (6, .mp 1), (5, .sl 3 0 y.2.1.length y.2.1.length)])
        (fun y => castBlks ti xs y.2.1) (fun y => y.1 ≤ sc.paras.length ∧ Bd (paraSum (xs.take i) + y.1) y.2.1 ∧ runL y.2.2.2 (sc.paras.drop y.1) = some e ∧ ((y.2.2.2 = 2 ∨ y.2.2.2 = 3 ∨ y.2.2.2 = 4) → y.2.2.1 < y.2.1.length) ∧
          ((sc.paras.drop y.1).foldl (castStep i) (y.2.1, y.2.2.1)).1 = castScene i es sc) (0, es, 0, 0) ⟨by simp, g2, hr, by simp, rfl⟩ ?_ ?_
      · refine Shift.low 4 (by simp) (by simp) (low_cast ti xs es) ?_
        simp only [wkl, lowV, lowC, Av.get, go_sem, Nat.reduceAdd, Nat.reduceMul, Nat.reduceSub, Nat.reduceBEq, Nat.reduceLT, Nat.reduceLeDiff, reduceIte, reduceCtorEq, Int.reduceToNat, Int.reduceLE, Int.reduceLT, Int.reduceNe, Int.reduceMul, Int.reduceAdd, Int.reduceSub, Int.reduceDiv, Int.reduceMod, Int.reduceEq, Int.reduceGE, Int.reduceGT, Int.reduceNeg, Int.reduceBEq, Int.reduceBNe, Nat.reduceEqDiff]
        first | done | simp
      · clear g2 g3
        rintro ⟨j, es1, k, l⟩ ⟨f1, f2, f3, f4, f5⟩ J2 hJ2
        simp only at f1 f2 f3 f4 f5 hJ2 ⊢
        by_cases gj : j < sc.paras.length
        · have dj : decide ((j : Int) < (sc.paras.length : Int)) = true := by simp; omega
          have hpA : List.getD (List.map paA sc.paras) j .any = .agg [.int .i64 sc.paras[j].kind, .str sc.paras[j].text] := by simp [List.getD, gj, paA]
          rw [List.drop_eq_getElem_cons gj] at f3 f5
          simp only [runL] at f3
          rw [List.foldl_cons] at f5
          split at f3
          rotate_left
          · cases f3
          rename_i hok
          simp only [Bool.and_eq_true] at hok
          generalize sc.paras[j] = p at *
          have hcu := cueAt_le es1 p.text
          by_cases k2 : p.kind = 2
          · have q2 : (p.kind == 2) = true := by simp [k2]
            by_cases hit : cueAt es1 p.text < es1.length
            · have m1 := place_in hit
              have m2 := last_in hit
              have hra := roles_at hit
              have hgs : ∀ a, List.getD (List.set (List.map roA (List.map (fun x => x.role) es1)) (cueAt es1 p.text) a) (cueAt es1 p.text) .any = a := fun a => by simp [List.getD, hit]
              have hde : es1.getD (cueAt es1 p.text) e0 = es1[cueAt es1 p.text] := by simp [List.getD, hit]
              have hst2 : castStep i (es1, k) p = (putCue es1 (cueAt es1 p.text) i, cueAt es1 p.text) := by simp [castStep, q2, hit]
              rw [hst2] at f5
              have htx := cueAt_hit hit
              have hb0 := f2.at hit
              have hb1 := f2.1
              have hb2 := paraSum_take_le xs i
              generalize hkk : cueAt es1 p.text = kk at *
              cases ql : (es1[kk].last != (i : Int)) with
              | true =>
                have hql : (es1[kk].last == (i : Int)) = false := by
                  rw [bne] at ql
                  simpa using ql
                refine goF (N := 109) Tryz.ntmps16 300 ?_
                simp only [castBlks]
                simp only [go_sem, Nat.reduceAdd, Nat.reduceMul, Nat.reduceSub, Nat.reduceBEq, Nat.reduceLT, Nat.reduceLeDiff, reduceIte, reduceCtorEq, Int.reduceToNat, Int.reduceLE, Int.reduceLT, Int.reduceNe, Int.reduceMul, Int.reduceAdd, Int.reduceSub, Int.reduceDiv, Int.reduceMod, Int.reduceEq, Int.reduceGE, Int.reduceGT, Int.reduceNeg, Int.reduceBEq, Int.reduceBNe, Nat.reduceEqDiff, dj, hpA, q2, List.length_map, m1, m2, hra, hgs, ql]
                repeat refine And.intro (by first | omega | exact .inl trivial | (simp; done) | (simp; omega)) ?_
                simp only [List.set_set]
                rw [put_roles hit i _ (by rw [hde, hql]; simp), put_last hit i htx, show placeP es1 = placeP (putCue es1 kk i) from (put_place hit i).symm, show (j : Int) + 1 = ((j + 1 : Nat) : Int) by omega, ← put_len es1 kk i]
                refine ainv (hJ2 (j + 1, putCue es1 kk i, kk, 2) ⟨by simp only; omega, by simp only; rw [← Nat.add_assoc]; exact put_bd f2 hit i, by simp only; rw [← k2]; exact f3, by simp only; intro _; rw [put_len]; exact hit, f5⟩ (by simp only; omega)) (Shift.low 4 (by simp) (by simp) ?_ ?_)
                · exact low_cast ti xs (putCue es1 kk i)
                · simp only [wkl, lowV, lowC, Av.get, go_sem, Nat.reduceAdd, Nat.reduceMul, Nat.reduceSub, Nat.reduceBEq, Nat.reduceLT, Nat.reduceLeDiff, reduceIte, reduceCtorEq, Int.reduceToNat, Int.reduceLE, Int.reduceLT, Int.reduceNe, Int.reduceMul, Int.reduceAdd, Int.reduceSub, Int.reduceDiv, Int.reduceMod, Int.reduceEq, Int.reduceGE, Int.reduceGT, Int.reduceNeg, Int.reduceBEq, Int.reduceBNe, Nat.reduceEqDiff]
              | false =>
                have hql : (es1[kk].last == (i : Int)) = true := by
                  rw [bne] at ql
                  simpa using ql
                refine goF (N := 109) Tryz.ntmps16 300 ?_
                simp only [castBlks]
                simp only [go_sem, Nat.reduceAdd, Nat.reduceMul, Nat.reduceSub, Nat.reduceBEq, Nat.reduceLT, Nat.reduceLeDiff, reduceIte, reduceCtorEq, Int.reduceToNat, Int.reduceLE, Int.reduceLT, Int.reduceNe, Int.reduceMul, Int.reduceAdd, Int.reduceSub, Int.reduceDiv, Int.reduceMod, Int.reduceEq, Int.reduceGE, Int.reduceGT, Int.reduceNeg, Int.reduceBEq, Int.reduceBNe, Nat.reduceEqDiff, dj, hpA, q2, List.length_map, m1, m2, hra, hgs, ql]
                repeat refine And.intro (by first | omega | exact .inl trivial | (simp; done) | (simp; omega)) ?_
                rw [put_roles hit i _ (by rw [hde, hql]; simp), put_last hit i htx, show placeP es1 = placeP (putCue es1 kk i) from (put_place hit i).symm, show (j : Int) + 1 = ((j + 1 : Nat) : Int) by omega, ← put_len es1 kk i]
                refine ainv (hJ2 (j + 1, putCue es1 kk i, kk, 2) ⟨by simp only; omega, by simp only; rw [← Nat.add_assoc]; exact put_bd f2 hit i, by simp only; rw [← k2]; exact f3, by simp only; intro _; rw [put_len]; exact hit, f5⟩ (by simp only; omega)) (Shift.low 4 (by simp) (by simp) ?_ ?_)
                · exact low_cast ti xs (putCue es1 kk i)
                · simp only [wkl, lowV, lowC, Av.get, go_sem, Nat.reduceAdd, Nat.reduceMul, Nat.reduceSub, Nat.reduceBEq, Nat.reduceLT, Nat.reduceLeDiff, reduceIte, reduceCtorEq, Int.reduceToNat, Int.reduceLE, Int.reduceLT, Int.reduceNe, Int.reduceMul, Int.reduceAdd, Int.reduceSub, Int.reduceDiv, Int.reduceMod, Int.reduceEq, Int.reduceGE, Int.reduceGT, Int.reduceNeg, Int.reduceBEq, Int.reduceBNe, Nat.reduceEqDiff]
            · have m1 := place_out hit 0
              have m2 := last_out hit 0
              have m3 := new_find hit
              have hkk : cueAt es1 p.text = es1.length := by omega
              have hl2 : (newE es1 p.text).length = es1.length + 1 := by simp [newE]
              have hit2 : es1.length < (newE es1 p.text).length := by omega
              have hra := roles_at hit2
              have hgE : (newE es1 p.text).getD es1.length e0 = ⟨⟨p.text, 0, 0, 0⟩, -1⟩ := by simp [newE, List.getD]
              have hgs : ∀ a, List.getD (List.set (List.map roA (List.map (fun x => x.role) (newE es1 p.text))) es1.length a) es1.length .any = a := fun a => by simp [List.getD, newE]
              have hst2 : castStep i (es1, k) p = (putCue (newE es1 p.text) es1.length i, es1.length) := by
                simp only [castStep, q2, if_true, hkk, Nat.lt_irrefl, if_false]; rfl
              rw [hst2] at f5
              have ql : ((-1 : Int) != (i : Int)) = true := by simp only [bne_iff_ne, ne_eq]; omega
              have hql : ((-1 : Int) == (i : Int)) = false := by rw [beq_eq_false_iff_ne]; omega
              have hz1 : ((newE es1 p.text).getD es1.length e0).role.scenes = 0 := by rw [hgE]
              have hz2 : ((newE es1 p.text).getD es1.length e0).role.speeches = 0 := by rw [hgE]
              have hb1 := f2.1
              have hb2 := paraSum_take_le xs i
              refine goF (N := 109) Tryz.ntmps16 300 ?_
              simp only [castBlks]
              simp only [go_sem, Nat.reduceAdd, Nat.reduceMul, Nat.reduceSub, Nat.reduceBEq, Nat.reduceLT, Nat.reduceLeDiff, reduceIte, reduceCtorEq, Int.reduceToNat, Int.reduceLE, Int.reduceLT, Int.reduceNe, Int.reduceMul, Int.reduceAdd, Int.reduceSub, Int.reduceDiv, Int.reduceMod, Int.reduceEq, Int.reduceGE, Int.reduceGT, Int.reduceNeg, Int.reduceBEq, Int.reduceBNe, Nat.reduceEqDiff, dj, hpA, q2, List.length_map, m1]
              repeat refine And.intro (by first | omega | exact .inl trivial | (simp; done) | (simp; omega)) ?_
              refine adrawP [(7, 1), (8, 2)] [] mixed (by decide) (N := 109) Tryz.ntmps16 (by decide) 100 ?_
              have m2' := last_out hit 0
              simp only [go_sem, Nat.reduceAdd, Nat.reduceMul, Nat.reduceSub, Nat.reduceBEq, Nat.reduceLT, Nat.reduceLeDiff, reduceIte, reduceCtorEq, Int.reduceToNat, Int.reduceLE, Int.reduceLT, Int.reduceNe, Int.reduceMul, Int.reduceAdd, Int.reduceSub, Int.reduceDiv, Int.reduceMod, Int.reduceEq, Int.reduceGE, Int.reduceGT, Int.reduceNeg, Int.reduceBEq, Int.reduceBNe, Nat.reduceEqDiff, m1, m2']
              repeat refine And.intro (by first | omega | exact .inl trivial | rfl | (simp; done) | (simp; omega)) ?_
              rw [new_last, new_place]
              refine goF (N := 109) Tryz.ntmps16 300 ?_
              simp only [go_sem, Nat.reduceAdd, Nat.reduceMul, Nat.reduceSub, Nat.reduceBEq, Nat.reduceLT, Nat.reduceLeDiff, reduceIte, reduceCtorEq, Int.reduceToNat, Int.reduceLE, Int.reduceLT, Int.reduceNe, Int.reduceMul, Int.reduceAdd, Int.reduceSub, Int.reduceDiv, Int.reduceMod, Int.reduceEq, Int.reduceGE, Int.reduceGT, Int.reduceNeg, Int.reduceBEq, Int.reduceBNe, Nat.reduceEqDiff, List.length_map, new_roles, m3, hra, hgs, ql]
              repeat refine And.intro (by first | omega | exact .inl trivial | (simp; done) | (simp; omega)) ?_
              simp only [List.set_set]
              rw [put_roles hit2 i _ (by rw [hgE]; simp [hql]), put_last hit2 i (by simp [newE]), show placeP (newE es1 p.text) = placeP (putCue (newE es1 p.text) es1.length i) from (put_place hit2 i).symm, show (j : Int) + 1 = ((j + 1 : Nat) : Int) by omega, show es1.length + 1 = (putCue (newE es1 p.text) es1.length i).length by rw [put_len, hl2]]
              refine ainv (hJ2 (j + 1, putCue (newE es1 p.text) es1.length i, es1.length, 2) ⟨by simp only; omega, by simp only; rw [← Nat.add_assoc]; exact new_bd f2 p.text i, by simp only; rw [← k2]; exact f3, by simp only; intro _; rw [put_len, hl2]; omega, f5⟩ (by simp only; omega)) (Shift.low 4 (by simp) (by simp) ?_ ?_)
              · exact low_cast ti xs (putCue (newE es1 p.text) es1.length i)
              · simp only [wkl, lowV, lowC, Av.get, go_sem, Nat.reduceAdd, Nat.reduceMul, Nat.reduceSub, Nat.reduceBEq, Nat.reduceLT, Nat.reduceLeDiff, reduceIte, reduceCtorEq, Int.reduceToNat, Int.reduceLE, Int.reduceLT, Int.reduceNe, Int.reduceMul, Int.reduceAdd, Int.reduceSub, Int.reduceDiv, Int.reduceMod, Int.reduceEq, Int.reduceGE, Int.reduceGT, Int.reduceNeg, Int.reduceBEq, Int.reduceBNe, Nat.reduceEqDiff]
          · have q2 : (p.kind == 2) = false := by simp [k2]
            have hb2 := paraSum_take_le xs i
            by_cases k4 : p.kind = 4
            · have q4 : (p.kind == 4) = true := by simp [k4]
              have hkl : k < es1.length := by
                have := hok.2
                rw [k4] at this
                simp [followsL] at this
                exact f4 (by omega)
              have hra := roles_at hkl
              have hst2 : castStep i (es1, k) p = (wordE es1 k p.text, k) := by simp [castStep, q2, q4, wordE]
              rw [hst2] at f5
              have hpl := para_len hok.1
              have hwl := wordsL_len p.text
              have hb0 := f2.at hkl
              refine goF (N := 109) Tryz.ntmps16 300 ?_
              simp only [castBlks]
              simp only [go_sem, Nat.reduceAdd, Nat.reduceMul, Nat.reduceSub, Nat.reduceBEq, Nat.reduceLT, Nat.reduceLeDiff, reduceIte, reduceCtorEq, Int.reduceToNat, Int.reduceLE, Int.reduceLT, Int.reduceNe, Int.reduceMul, Int.reduceAdd, Int.reduceSub, Int.reduceDiv, Int.reduceMod, Int.reduceEq, Int.reduceGE, Int.reduceGT, Int.reduceNeg, Int.reduceBEq, Int.reduceBNe, Nat.reduceEqDiff, dj, hpA, q2, q4, List.length_map]
              repeat refine And.intro (by first | omega | exact .inl trivial | (simp; done) | (simp; omega)) ?_
              refine adraw [.fz 1 ((wordsL p.text).map .str)] mixed (by decide) (N := 109) Tryz.ntmps16 (by decide) 100 ?_
              simp only [go_sem, Nat.reduceAdd, Nat.reduceMul, Nat.reduceSub, Nat.reduceBEq, Nat.reduceLT, Nat.reduceLeDiff, reduceIte, reduceCtorEq, Int.reduceToNat, Int.reduceLE, Int.reduceLT, Int.reduceNe, Int.reduceMul, Int.reduceAdd, Int.reduceSub, Int.reduceDiv, Int.reduceMod, Int.reduceEq, Int.reduceGE, Int.reduceGT, Int.reduceNeg, Int.reduceBEq, Int.reduceBNe, Nat.reduceEqDiff, List.length_map, hra]
              repeat refine And.intro (by first | omega | exact (words_pc p.text (by omega)).at | rfl | exact .inl trivial | (simp; done) | (simp; omega)) ?_
              have hwl2 : (wordE es1 k p.text).length = es1.length := by simp [wordE]
              rw [word_roles, ← word_place hkl p.text, ← word_last hkl p.text, ← hwl2]
              refine goF (N := 109) Tryz.ntmps16 300 ?_
              simp only [go_sem, Nat.reduceAdd, Nat.reduceMul, Nat.reduceSub, Nat.reduceBEq, Nat.reduceLT, Nat.reduceLeDiff, reduceIte, reduceCtorEq, Int.reduceToNat, Int.reduceLE, Int.reduceLT, Int.reduceNe, Int.reduceMul, Int.reduceAdd, Int.reduceSub, Int.reduceDiv, Int.reduceMod, Int.reduceEq, Int.reduceGE, Int.reduceGT, Int.reduceNeg, Int.reduceBEq, Int.reduceBNe, Nat.reduceEqDiff]
              repeat refine And.intro (by omega) ?_
              rw [show (j : Int) + 1 = ((j + 1 : Nat) : Int) by omega]
              refine ainv (hJ2 (j + 1, wordE es1 k p.text, k, p.kind) ⟨by simp only; omega, by simp only; rw [← Nat.add_assoc]; exact word_bd f2 hkl hpl, f3, fun _ => by simp only; rw [hwl2]; exact hkl, f5⟩ (by simp only; omega)) (Shift.low 4 (by simp) (by simp) ?_ ?_)
              · exact low_cast ti xs (wordE es1 k p.text)
              · simp only [wkl, lowV, lowC, Av.get, go_sem, Nat.reduceAdd, Nat.reduceMul, Nat.reduceSub, Nat.reduceBEq, Nat.reduceLT, Nat.reduceLeDiff, reduceIte, reduceCtorEq, Int.reduceToNat, Int.reduceLE, Int.reduceLT, Int.reduceNe, Int.reduceMul, Int.reduceAdd, Int.reduceSub, Int.reduceDiv, Int.reduceMod, Int.reduceEq, Int.reduceGE, Int.reduceGT, Int.reduceNeg, Int.reduceBEq, Int.reduceBNe, Nat.reduceEqDiff]
            · have q4 : (p.kind == 4) = false := by simp [k4]
              have hst2 : castStep i (es1, k) p = (es1, k) := by simp [castStep, q2, q4]
              rw [hst2] at f5
              refine goF (N := 109) Tryz.ntmps16 300 ?_
              simp only [castBlks]
              simp only [go_sem, Nat.reduceAdd, Nat.reduceMul, Nat.reduceSub, Nat.reduceBEq, Nat.reduceLT, Nat.reduceLeDiff, reduceIte, reduceCtorEq, Int.reduceToNat, Int.reduceLE, Int.reduceLT, Int.reduceNe, Int.reduceMul, Int.reduceAdd, Int.reduceSub, Int.reduceDiv, Int.reduceMod, Int.reduceEq, Int.reduceGE, Int.reduceGT, Int.reduceNeg, Int.reduceBEq, Int.reduceBNe, Nat.reduceEqDiff, dj, hpA, q2, q4, List.length_map]
              repeat refine And.intro (by first | omega | exact .inl trivial | (simp; done) | (simp; omega)) ?_
              rw [show (j : Int) + 1 = ((j + 1 : Nat) : Int) by omega]
              refine ainv (hJ2 (j + 1, es1, k, p.kind) ⟨by simp only; omega, by simp only; exact f2.mono (by omega), f3, by
                simp only
                intro h
                have h3 : p.kind = 3 := by omega
                have := hok.2
                rw [h3] at this
                simp [followsL] at this
                exact f4 (by omega), f5⟩ (by simp only; omega)) (Shift.low 4 (by simp) (by simp) ?_ ?_)
              · exact low_cast ti xs es1
              · simp only [wkl, lowV, lowC, Av.get, go_sem, Nat.reduceAdd, Nat.reduceMul, Nat.reduceSub, Nat.reduceBEq, Nat.reduceLT, Nat.reduceLeDiff, reduceIte, reduceCtorEq, Int.reduceToNat, Int.reduceLE, Int.reduceLT, Int.reduceNe, Int.reduceMul, Int.reduceAdd, Int.reduceSub, Int.reduceDiv, Int.reduceMod, Int.reduceEq, Int.reduceGE, Int.reduceGT, Int.reduceNeg, Int.reduceBEq, Int.reduceBNe, Nat.reduceEqDiff]
        · have dj : decide ((j : Int) < (sc.paras.length : Int)) = false := by simp; omega
          have hj : j = sc.paras.length := by omega
          subst hj
          rw [List.drop_length] at f5
          simp only [List.foldl_nil] at f5
          subst f5
          refine goF (N := 109) Tryz.ntmps16 300 ?_
          simp only [go_sem, Nat.reduceAdd, Nat.reduceMul, Nat.reduceSub, Nat.reduceBEq, Nat.reduceLT, Nat.reduceLeDiff, reduceIte, reduceCtorEq, Int.reduceToNat, Int.reduceLE, Int.reduceLT, Int.reduceNe, Int.reduceMul, Int.reduceAdd, Int.reduceSub, Int.reduceDiv, Int.reduceMod, Int.reduceEq, Int.reduceGE, Int.reduceGT, Int.reduceNeg, Int.reduceBEq, Int.reduceBNe, Nat.reduceEqDiff, dj]
          repeat refine And.intro (by first | omega | exact .inl trivial | (simp; done) | (simp; omega)) ?_
          rw [show (i : Int) + 1 = ((i + 1 : Nat) : Int) by omega]
          refine ainv (hJ (i + 1, castScene i es sc) ⟨by simp only; omega, by simp only; rw [hst]; exact f2, by simp only; exact hcf⟩ (by simp only; omega)) (Shift.weak ?_)
          simp only [wk, go_sem, Nat.reduceAdd, Nat.reduceMul, Nat.reduceSub, Nat.reduceBEq, Nat.reduceLT, Nat.reduceLeDiff, reduceIte, reduceCtorEq, Int.reduceToNat, Int.reduceLE, Int.reduceLT, Int.reduceNe, Int.reduceMul, Int.reduceAdd, Int.reduceSub, Int.reduceDiv, Int.reduceMod, Int.reduceEq, Int.reduceGE, Int.reduceGT, Int.reduceNeg, Int.reduceBEq, Int.reduceBNe, Nat.reduceEqDiff]
    · have di : decide ((i : Int) < (xs.length : Int)) = false := by simp; omega
      have hi : i = xs.length := by omega
      subst hi
      rw [List.drop_length] at g3
      simp only [castFrom] at g3
      refine goF (N := 109) Tryz.ntmps16 300 ?_
      simp only [castBlks]
      simp only [go_sem, Nat.reduceAdd, Nat.reduceMul, Nat.reduceSub, Nat.reduceBEq, Nat.reduceLT, Nat.reduceLeDiff, reduceIte, reduceCtorEq, Int.reduceToNat, Int.reduceLE, Int.reduceLT, Int.reduceNe, Int.reduceMul, Int.reduceAdd, Int.reduceSub, Int.reduceDiv, Int.reduceMod, Int.reduceEq, Int.reduceGE, Int.reduceGT, Int.reduceNeg, Int.reduceBEq, Int.reduceBNe, Nat.reduceEqDiff, di]
      refine ARet.shift (Shift.freeze 2 (id := 3) rfl rfl (by simp) (Nat.le_refl _) (frozen_roles _)) (aret [2, 3] rfl ⟨?_, rfl⟩)
      simp [resV, Av.get, Av.put, List.take_of_length_le, castL, ← g3]
end Go.Proofs.YtpjbbpilgfihbaaGreatDoor
/- Groups of paragraphs as lists: plain law. Own work of this seat. -/
set_option maxRecDepth 100000
set_option linter.unusedSimpArgs false
set_option linter.unusedVariables false
namespace Go.Proofs.YtpjbbpilgfihbaaGreatDoor
open Go Go.Av Go.RowKit

def chunksFrom (cur : List Pa) : List Pa → List (List Pa)
  | [] => [cur]
  | p :: r => if joins p then chunksFrom (cur ++ [p]) r else cur :: chunksFrom [p] r
def chunks : List Pa → List (List Pa)
  | [] => []
  | p :: r => chunksFrom [p] r

theorem cut_one {ps : List Pa} {i : Nat} (h : i < ps.length) : cutP ps (i, i + 1) = [ps[i]] := by
  rw [cutP, List.take_succ_eq_append_getElem h, List.drop_append_of_le_length (by simp; omega)]
  simp
theorem cut_more {ps : List Pa} {a i : Nat} (ha : a ≤ i) (h : i < ps.length) : cutP ps (a, i + 1) = cutP ps (a, i) ++ [ps[i]] := by
  simp only [cutP]
  rw [List.take_succ_eq_append_getElem h, List.drop_append_of_le_length (by simp; omega)]
theorem gfold_cut (ps : List Pa) : ∀ (rest : List Pa) (i a : Nat) (init : List (Nat × Nat)), a ≤ i → ps.drop i = rest →
    (gfold (init ++ [(a, i)]) i rest).map (cutP ps) = init.map (cutP ps) ++ chunksFrom (cutP ps (a, i)) rest
  | [], i, a, init, ha, hr => by simp [gfold, chunksFrom]
  | p :: r, i, a, init, ha, hr => by
    have hi : i < ps.length := by
      rcases Nat.lt_or_ge i ps.length with h | h
      · exact h
      · rw [List.drop_of_length_le h] at hr; cases hr
    have hd := List.drop_eq_getElem_cons hi
    rw [hr] at hd
    simp only [List.cons.injEq] at hd
    obtain ⟨hp, hr'⟩ := hd
    cases hj : joins p with
    | true =>
      have hg : gstep (init ++ [(a, i)]) i p = init ++ [(a, i + 1)] := by
        simp [gstep, hj, List.set_append, List.getD]
      rw [gfold, hg, gfold_cut ps r (i + 1) a init (by omega) hr'.symm, chunksFrom, if_pos hj, cut_more ha hi, hp]
    | false =>
      have hg : gstep (init ++ [(a, i)]) i p = (init ++ [(a, i)]) ++ [(i, i + 1)] := by simp [gstep, hj]
      rw [gfold, hg, gfold_cut ps r (i + 1) i (init ++ [(a, i)]) (by omega) hr'.symm, chunksFrom, hj, cut_one hi, hp]
      simp
theorem groups_cut (ps : List Pa) (h0 : ∀ p, ps.head? = some p → joins p = false) : (groupsL ps).map (cutP ps) = chunks ps := by
  cases ps with
  | nil => rfl
  | cons p r =>
    have hj := h0 p rfl
    have hg : gstep [] 0 p = [] ++ [(0, 1)] := by simp [gstep, hj]
    rw [groupsL, gfold, hg, gfold_cut (p :: r) r 1 0 [] (by omega) rfl]
    rfl

def hdP (c : List Pa) : Pa := c.head?.getD pNo
def ownC (name : List UInt8) (ws : List (List UInt8)) (c : List Pa) (nxt : Option (List Pa)) : Bool :=
  isCue (hdP c) name || (((hdP c).kind == 2 && (match nxt with | some d => isCue (hdP d) name | none => false)) ||
    ((hdP c).kind != 2 && (decide (0 < ws.length) && decide (0 < (foundL (wordsL (hdP c).text) ws).length))))
def partC (name : List UInt8) (ws : List (List UInt8)) : List (List Pa) → List Pa
  | [] => []
  | c :: r => (if ownC name ws c r.head? then c else []) ++ partC name ws r
theorem hd_cut {ps : List Pa} {g : Nat × Nat} (h : g.1 < g.2 ∧ g.2 ≤ ps.length) : hdP (cutP ps g) = ps.getD g.1 pNo := by
  have h1 : g.1 < ps.length := by omega
  simp [hdP, cutP, List.head?_drop, List.getElem?_take, h.1, List.getD]
theorem own_cut {ps : List Pa} {gs : List (Nat × Nat)} (hgo : ∀ g ∈ gs, g.1 < g.2 ∧ g.2 ≤ ps.length) (name : List UInt8) (ws : List (List UInt8)) {k : Nat} (hk : k < gs.length) :
    ownB ps name ws gs k = ownC name ws (cutP ps gs[k]) ((gs.map (cutP ps)).drop (k + 1)).head? := by
  have h1 : headP ps gs k = hdP (cutP ps gs[k]) := by
    rw [hd_cut (hgo _ (List.getElem_mem hk)), headP]
    simp [List.getD, hk]
  unfold ownB ownC
  rw [h1, List.head?_drop, List.getElem?_map]
  by_cases hk1 : k + 1 < gs.length
  · have h2 : headP ps gs (k + 1) = hdP (cutP ps gs[k + 1]) := by
      rw [hd_cut (hgo _ (List.getElem_mem hk1)), headP]
      simp [List.getD, hk1]
    rw [h2, List.getElem?_eq_getElem hk1]
    simp [hk1]
  · rw [List.getElem?_eq_none (by omega)]
    simp [hk1]
theorem part_from {ps : List Pa} {gs : List (Nat × Nat)} (hgo : ∀ g ∈ gs, g.1 < g.2 ∧ g.2 ≤ ps.length) (name : List UInt8) (ws : List (List UInt8)) : ∀ (d k : Nat), k + d = gs.length →
    partTo ps name ws gs gs.length = partTo ps name ws gs k ++ partC name ws ((gs.map (cutP ps)).drop k)
  | 0, k, h => by
    have : k = gs.length := by omega
    subst this
    rw [List.drop_of_length_le (by simp)]
    simp [partC]
  | d + 1, k, h => by
    have hk : k < gs.length := by omega
    have hk' : k < (gs.map (cutP ps)).length := by simpa using hk
    rw [part_from hgo name ws d (k + 1) (by omega), List.drop_eq_getElem_cons hk', partC, partTo, own_cut hgo name ws hk]
    simp [List.getD, hk]
theorem part_chunks (ps : List Pa) (name : List UInt8) (h0 : ∀ p, ps.head? = some p → joins p = false) : partL ps name = partC name (wordsL name) (chunks ps) := by
  rw [partL, part_from (groups_ok ps) name (wordsL name) (groupsL ps).length 0 (by omega), groups_cut ps h0]
  simp [partTo]

def keepC (name : List UInt8) (ws : List (List UInt8)) : List (List Pa) → List (List Pa)
  | [] => []
  | c :: r => if ownC name ws c r.head? then c :: keepC name ws r else keepC name ws r
theorem partC_flat (name : List UInt8) (ws : List (List UInt8)) : ∀ cs, partC name ws cs = (keepC name ws cs).flatten
  | [] => rfl
  | c :: r => by
    rw [partC, keepC, partC_flat name ws r]
    split <;> simp
theorem own_next {name : List UInt8} {ws : List (List UInt8)} {c : List Pa} {r : List (List Pa)} (h : ownC name ws c r.head? = true) : ownC name ws c (keepC name ws r).head? = true := by
  cases r with
  | nil => exact h
  | cons d r =>
    unfold ownC at h ⊢
    cases h1 : isCue (hdP c) name with
    | true => rfl
    | false =>
      rw [h1] at h
      cases h2 : isCue (hdP d) name with
      | true =>
        have hd : ownC name ws d r.head? = true := by unfold ownC; rw [h2]; rfl
        rw [keepC, if_pos hd]
        exact h
      | false =>
        simp only [List.head?_cons, h2, Bool.and_false, Bool.false_or] at h
        simp only [h, Bool.or_true]
theorem keep_keep (name : List UInt8) (ws : List (List UInt8)) : ∀ cs, keepC name ws (keepC name ws cs) = keepC name ws cs
  | [] => rfl
  | c :: r => by
    cases h : ownC name ws c r.head? with
    | true =>
      rw [keepC, if_pos h, keepC, if_pos (own_next h), keep_keep name ws r]
    | false =>
      rw [keepC, h]
      exact keep_keep name ws r

/-- a chunk: it begins with what does not join, all else joins -/
def WfC : List Pa → Prop
  | [] => False
  | p :: r => joins p = false ∧ ∀ q ∈ r, joins q = true
theorem chunksFrom_wf : ∀ (ps cur : List Pa), WfC cur → ∀ c ∈ chunksFrom cur ps, WfC c
  | [], cur, h, c, hc => by
    simp only [chunksFrom, List.mem_singleton] at hc
    subst hc; exact h
  | p :: r, cur, h, c, hc => by
    rw [chunksFrom] at hc
    split at hc
    · rename_i hj
      refine chunksFrom_wf r (cur ++ [p]) ?_ c hc
      cases cur with
      | nil => exact h.elim
      | cons a t => exact ⟨h.1, fun q hq => by
          rcases List.mem_append.1 hq with hq | hq
          · exact h.2 q hq
          · rw [List.mem_singleton.1 hq]; exact hj⟩
    · rename_i hj
      rcases List.mem_cons.1 hc with rfl | hc
      · exact h
      · exact chunksFrom_wf r [p] ⟨by simpa using hj, by simp⟩ c hc
theorem chunks_wf (ps : List Pa) (h0 : ∀ p, ps.head? = some p → joins p = false) : ∀ c ∈ chunks ps, WfC c := by
  cases ps with
  | nil => intro c hc; simp [chunks] at hc
  | cons p r => exact chunksFrom_wf r [p] ⟨h0 p rfl, by simp⟩
theorem chunksFrom_join : ∀ (t cur rest : List Pa), (∀ q ∈ t, joins q = true) → chunksFrom cur (t ++ rest) = chunksFrom (cur ++ t) rest
  | [], cur, rest, _ => by simp
  | q :: t, cur, rest, h => by
    rw [List.cons_append, chunksFrom, if_pos (h q (by simp)), chunksFrom_join t (cur ++ [q]) rest (fun x hx => h x (by simp [hx]))]
    simp
theorem chunksFrom_flat : ∀ (cs : List (List Pa)) (cur : List Pa), (∀ c ∈ cs, WfC c) → chunksFrom cur cs.flatten = cur :: cs
  | [], cur, _ => rfl
  | c :: r, cur, h => by
    have hc := h c (by simp)
    cases c with
    | nil => exact hc.elim
    | cons p t =>
      rw [List.flatten_cons, List.cons_append, chunksFrom, hc.1, chunksFrom_join t [p] _ hc.2]
      have := chunksFrom_flat r ([p] ++ t) (fun x hx => h x (by simp [hx]))
      simp only [List.cons_append, List.nil_append] at this ⊢
      rw [this]
      simp
theorem chunks_flat (cs : List (List Pa)) (h : ∀ c ∈ cs, WfC c) : chunks cs.flatten = cs := by
  cases cs with
  | nil => rfl
  | cons c r =>
    have hc := h c (by simp)
    cases c with
    | nil => exact hc.elim
    | cons p t =>
      rw [List.flatten_cons, List.cons_append, chunks, chunksFrom_join t [p] _ hc.2, chunksFrom_flat r _ (fun x hx => h x (by simp [hx]))]
      rfl
theorem keep_sub (name : List UInt8) (ws : List (List UInt8)) : ∀ cs, ∀ c ∈ keepC name ws cs, c ∈ cs
  | [], c, h => by simp [keepC] at h
  | d :: r, c, h => by
    rw [keepC] at h
    split at h
    · rcases List.mem_cons.1 h with rfl | h
      · simp
      · exact List.mem_cons_of_mem _ (keep_sub name ws r c h)
    · exact List.mem_cons_of_mem _ (keep_sub name ws r c h)
/-- the part of a part is the part -/
theorem part_part (ps : List Pa) (name : List UInt8) (h0 : ∀ p, ps.head? = some p → joins p = false) : partL (partL ps name) name = partL ps name ∧ chunks (partL ps name) = keepC name (wordsL name) (chunks ps) ∧ (∀ p, (partL ps name).head? = some p → joins p = false) := by
  have hw : ∀ c ∈ keepC name (wordsL name) (chunks ps), WfC c := fun c hc => chunks_wf ps h0 c (keep_sub name _ _ c hc)
  have h1 := part_chunks ps name h0
  rw [partC_flat] at h1
  have h2 : chunks (partL ps name) = keepC name (wordsL name) (chunks ps) := by rw [h1]; exact chunks_flat _ hw
  have h3 : ∀ p, (partL ps name).head? = some p → joins p = false := by
    intro p hp
    rw [h1] at hp
    generalize keepC name (wordsL name) (chunks ps) = cs at *
    cases cs with
    | nil => simp at hp
    | cons c r =>
      have hc := hw c (by simp)
      cases c with
      | nil => exact hc.elim
      | cons a t =>
        simp at hp
        rw [← hp]; exact hc.1
  refine ⟨?_, h2, h3⟩
  rw [part_chunks _ name h3, h2, partC_flat, keep_keep, ← h1]
end Go.Proofs.YtpjbbpilgfihbaaGreatDoor
/- Parts run: plain law. Own work of this seat. -/
set_option maxRecDepth 100000
set_option linter.unusedSimpArgs false
set_option linter.unusedVariables false
namespace Go.Proofs.YtpjbbpilgfihbaaGreatDoor
open Go Go.Av Go.RowKit

theorem runL_split : ∀ (a b : List Pa) (l e : Int), runL l (a ++ b) = some e → ∃ m, runL l a = some m ∧ runL m b = some e
  | [], b, l, e, h => ⟨l, rfl, h⟩
  | p :: a, b, l, e, h => by
    simp only [List.cons_append, runL] at h
    split at h
    · rename_i hc
      obtain ⟨m, h1, h2⟩ := runL_split a b _ e h
      exact ⟨m, by simp only [runL, if_pos hc]; exact h1, h2⟩
    · cases h
def Free (c : List Pa) : Prop := ∀ l, l ≠ 2 → l ≠ 3 → ∃ e, runL l c = some e ∧ e ≠ 2 ∧ e ≠ 3
theorem join_no {q : Pa} (h : joins q = false) : q.kind ≠ 3 ∧ q.kind ≠ 4 := by
  simpa [joins] using h
theorem follow_no {q : Pa} {m : Int} (h : joins q = false) (hf : followsL q.kind m = true) : m ≠ 2 ∧ m ≠ 3 := by
  obtain ⟨h3, h4⟩ := join_no h
  simpa [followsL, h3, h4] using hf
theorem free_of {c : List Pa} (hw : WfC c) {l m : Int} (h : runL l c = some m) (h2 : m ≠ 2) (h3 : m ≠ 3) : Free c := by
  cases c with
  | nil => exact hw.elim
  | cons p t =>
    intro l' a b
    simp only [runL] at h ⊢
    split at h
    · rename_i hc
      simp only [Bool.and_eq_true] at hc
      obtain ⟨k3, k4⟩ := join_no hw.1
      rw [if_pos (by simp [hc.1, follows_free k3 k4 a b])]
      exact ⟨m, h, h2, h3⟩
    · cases h
theorem free_all : ∀ (cs : List (List Pa)) (l e : Int), (∀ c ∈ cs, WfC c) → runL l cs.flatten = some e → e ≠ 2 → e ≠ 3 → ∀ c ∈ cs, Free c
  | [], _, _, _, _, _, _, c, hc => by simp at hc
  | d :: r, l, e, hw, h, h2, h3, c, hc => by
    rw [List.flatten_cons] at h
    obtain ⟨m, h4, h5⟩ := runL_split _ _ _ _ h
    have hm : m ≠ 2 ∧ m ≠ 3 := by
      cases r with
      | nil =>
        simp only [List.flatten_nil, runL, Option.some.injEq] at h5
        subst h5; exact ⟨h2, h3⟩
      | cons f r =>
        have hf := hw f (by simp)
        cases f with
        | nil => exact hf.elim
        | cons q t =>
          rw [List.flatten_cons, List.cons_append] at h5
          simp only [runL] at h5
          split at h5
          · rename_i hc
            simp only [Bool.and_eq_true] at hc
            exact follow_no hf.1 hc.2
          · cases h5
    rcases List.mem_cons.1 hc with rfl | hc
    · exact free_of (hw c (by simp)) h4 hm.1 hm.2
    · exact free_all r m e (fun x hx => hw x (by simp [hx])) h5 h2 h3 c hc
theorem free_run : ∀ (cs : List (List Pa)) (l : Int), (∀ c ∈ cs, Free c) → l ≠ 2 → l ≠ 3 → ∃ e, runL l cs.flatten = some e ∧ e ≠ 2 ∧ e ≠ 3
  | [], l, _, a, b => ⟨l, rfl, a, b⟩
  | c :: r, l, h, a, b => by
    obtain ⟨m, h1, h2, h3⟩ := h c (by simp) l a b
    obtain ⟨e, h4, h5⟩ := free_run r m (fun x hx => h x (by simp [hx])) h2 h3
    exact ⟨e, by rw [List.flatten_cons, runL_append _ _ _ _ h1]; exact h4, h5⟩
theorem chunksFrom_all : ∀ (ps cur : List Pa), (chunksFrom cur ps).flatten = cur ++ ps
  | [], cur => by simp [chunksFrom]
  | p :: r, cur => by
    rw [chunksFrom]
    split
    · rw [chunksFrom_all r (cur ++ [p])]; simp
    · rw [List.flatten_cons, chunksFrom_all r [p]]; simp
theorem chunks_all (ps : List Pa) : (chunks ps).flatten = ps := by
  cases ps with
  | nil => rfl
  | cons p r => exact chunksFrom_all r [p]
/-- a part of right paragraphs is right -/
theorem part_run {ps : List Pa} {e : Int} (name : List UInt8) (h : runL 0 ps = some e) (h2 : e ≠ 2) (h3 : e ≠ 3) : ∃ e', runL 0 (partL ps name) = some e' ∧ e' ≠ 2 ∧ e' ≠ 3 := by
  have h0 := run_head h
  have hw := chunks_wf ps h0
  have hf := free_all (chunks ps) 0 e hw (by rw [chunks_all]; exact h) h2 h3
  rw [part_chunks ps name h0, partC_flat]
  exact free_run _ 0 (fun c hc => hf c (keep_sub name _ _ c hc)) (by decide) (by decide)

/-- times that are said are never 'later' -/
theorem times_ne {xs : List Sc} (h0 : ∀ x, xs.head? = some x → x.time ≠ 5) (hr : ∀ x ∈ xs, 1 ≤ x.time ∧ x.time ≤ 5) : ∀ i, i ≤ xs.length → ∀ v ∈ timesTo xs i, v ≠ 5 ∧ 1 ≤ v ∧ v ≤ 5
  | 0, _, v, hv => by simp [timesTo] at hv
  | i + 1, hi, v, hv => by
    have ih := times_ne h0 hr i (by omega)
    have hlt : i < xs.length := by omega
    have hgd : xs.getD i ⟨[], 0, [], 0, []⟩ = xs[i] := by simp [List.getD, hlt]
    rw [timesTo, hgd] at hv
    rcases List.mem_append.1 hv with hv | hv
    · exact ih v hv
    · rw [List.mem_singleton] at hv
      have hx := hr xs[i] (List.getElem_mem hlt)
      split at hv
      · rename_i hc
        simp only [Bool.and_eq_true, decide_eq_true_eq] at hc
        have hl : i - 1 < (timesTo xs i).length := by rw [timesTo_len]; omega
        have hm : (timesTo xs i).getD (i - 1) 0 ∈ timesTo xs i := by
          rw [List.getD_eq_getElem?_getD, List.getElem?_eq_getElem hl]
          exact List.getElem_mem hl
        rw [hv]
        exact ih _ hm
      · rename_i hc
        rw [hv]
        refine ⟨fun h5 => ?_, hx⟩
        by_cases hi0 : i = 0
        · subst hi0
          exact h0 xs[0] (by rw [List.head?_eq_getElem?, List.getElem?_eq_getElem hlt]) h5
        · apply hc
          simp [h5]; omega
end Go.Proofs.YtpjbbpilgfihbaaGreatDoor
/- Sides, scene by scene: plain law. Own work of this seat. -/
set_option maxRecDepth 100000
set_option linter.unusedSimpArgs false
set_option linter.unusedVariables false
namespace Go.Proofs.YtpjbbpilgfihbaaGreatDoor
open Go Go.Av Go.RowKit

def sideOf (T : List Int) (name : List UInt8) (first : Bool) (i : Nat) (x : Sc) : Sc :=
  { x with time := if x.time == 5 && first then T.getD i 0 else x.time, paras := partL x.paras name }
def sideF (T : List Int) (name : List UInt8) : Bool → Nat → List Sc → List Sc
  | _, _, [] => []
  | first, i, x :: r => if hasCueL x name then sideOf T name first i x :: sideF T name false (i + 1) r else sideF T name first (i + 1) r
theorem side_from (xs : List Sc) (name : List UInt8) : ∀ (d k : Nat), k + d = xs.length →
    sideTo xs name xs.length = sideTo xs name k ++ sideF (timesTo xs xs.length) name (decide ((sideTo xs name k).length = 0)) k (xs.drop k)
  | 0, k, h => by
    have : k = xs.length := by omega
    subst this
    rw [List.drop_length]
    simp [sideF]
  | d + 1, k, h => by
    have hk : k < xs.length := by omega
    have hgd : xs.getD k x0 = xs[k] := by simp [List.getD, hk]
    rw [side_from xs name d (k + 1) (by omega), List.drop_eq_getElem_cons hk, sideF, sideTo, hgd]
    cases hc : hasCueL xs[k] name with
    | true => simp [sideS, sideOf, List.getD, hk]
    | false => simp
theorem sides_forward (xs : List Sc) (name : List UInt8) : sideTo xs name xs.length = sideF (timesTo xs xs.length) name true 0 xs := by
  have := side_from xs name xs.length 0 (by omega)
  simpa [sideTo] using this

theorem cue_eq (p : Pa) (name : List UInt8) : eqP ⟨2, name⟩ p = isCue p name := by
  rw [Bool.eq_iff_iff]
  simp only [eqP, isCue, Bool.and_eq_true, beq_iff_eq]
  exact ⟨fun h => ⟨h.1.symm, h.2.symm⟩, fun h => ⟨h.1.symm, h.2.symm⟩⟩
theorem keep_cue (name : List UInt8) (ws : List (List UInt8)) : ∀ (cs : List (List Pa)) (c : List Pa), c ∈ cs → isCue (hdP c) name = true → c ∈ keepC name ws cs
  | [], c, h, _ => by simp at h
  | d :: r, c, h, hc => by
    rw [keepC]
    rcases List.mem_cons.1 h with rfl | h
    · rw [if_pos (by unfold ownC; rw [hc]; rfl)]
      simp
    · have := keep_cue name ws r c h hc
      split
      · exact List.mem_cons_of_mem _ this
      · exact this
theorem cue_part {ps : List Pa} {name : List UInt8} (h0 : ∀ p, ps.head? = some p → joins p = false) (h : ps.any (eqP ⟨2, name⟩) = true) : (partL ps name).any (eqP ⟨2, name⟩) = true := by
  obtain ⟨p, hp, he⟩ := List.any_eq_true.1 h
  rw [cue_eq] at he
  rw [← chunks_all ps] at hp
  obtain ⟨c, hc, hpc⟩ := List.mem_flatten.1 hp
  have hw := chunks_wf ps h0 c hc
  have hd : hdP c = p := by
    cases c with
    | nil => exact hw.elim
    | cons a t =>
      rcases List.mem_cons.1 hpc with rfl | ht
      · rfl
      · have := hw.2 p ht
        simp only [isCue, Bool.and_eq_true, beq_iff_eq] at he
        simp [joins, he.1] at this
  rw [part_chunks ps name h0, partC_flat]
  refine List.any_eq_true.2 ⟨p, List.mem_flatten.2 ⟨c, keep_cue name _ _ c hc (by rw [hd]; exact he), hpc⟩, by rw [cue_eq]; exact he⟩
theorem side_fix (T : List Int) (name : List UInt8) : ∀ (l : List Sc) (first : Bool) (i : Nat), (∀ x ∈ l, hasCueL x name = true ∧ partL x.paras name = x.paras) → (first = true → ∀ x, l.head? = some x → x.time ≠ 5) → sideF T name first i l = l
  | [], _, _, _, _ => rfl
  | x :: r, first, i, h, h5 => by
    have hx := h x (by simp)
    rw [sideF, if_pos hx.1, side_fix T name r false (i + 1) (fun y hy => h y (by simp [hy])) (by simp)]
    congr 1
    have : (x.time == 5 && first) = false := by
      cases first with
      | false => simp
      | true => simpa using h5 rfl x rfl
    simp [sideOf, this, hx.2]

theorem side_mem (T : List Int) (name : List UInt8) : ∀ (l : List Sc) (first : Bool) (i : Nat), ∀ y ∈ sideF T name first i l, ∃ x ∈ l, hasCueL x name = true ∧ y.paras = partL x.paras name
  | [], _, _, y, h => by simp [sideF] at h
  | x :: r, first, i, y, h => by
    rw [sideF] at h
    split at h
    · rename_i hc
      rcases List.mem_cons.1 h with rfl | h
      · exact ⟨x, by simp, hc, rfl⟩
      · obtain ⟨z, hz, h2⟩ := side_mem T name r _ _ y h
        exact ⟨z, by simp [hz], h2⟩
    · obtain ⟨z, hz, h2⟩ := side_mem T name r _ _ y h
      exact ⟨z, by simp [hz], h2⟩
theorem side_head (T : List Int) (name : List UInt8) (hT : ∀ j, T.getD j 0 ≠ 5) : ∀ (l : List Sc) (i : Nat), ∀ y, (sideF T name true i l).head? = some y → y.time ≠ 5
  | [], _, y, h => by simp [sideF] at h
  | x :: r, i, y, h => by
    rw [sideF] at h
    split at h
    · simp only [List.head?_cons, Option.some.injEq] at h
      subst h
      simp only [sideOf, Bool.and_true]
      split
      · exact hT i
      · rename_i hc; simpa using hc
    · exact side_head T name hT r (i + 1) y h
theorem ok_time : ∀ (l : List Sc) (acc : List (List UInt8)) (f : Bool), okFrom acc f l → (∀ x ∈ l, 1 ≤ x.time ∧ x.time ≤ 5) ∧ (f = true → ∀ x, l.head? = some x → x.time ≠ 5)
  | [], _, _, _ => by simp
  | a :: r, acc, f, h => by
    refine ⟨fun x hx => ?_, fun hf x hx => ?_⟩
    · rcases List.mem_cons.1 hx with rfl | hx
      · exact h.2.2.1
      · exact (ok_time r _ _ h.2.2.2.2.2).1 x hx
    · simp only [List.head?_cons, Option.some.injEq] at hx
      subst hx
      exact h.2.2.2.1 hf
/-- the sides of sides are the sides -/
theorem sides_sides (x : Sr) (hx : ScriptOk x) (name : List UInt8) : sidesR (sidesR x name) name = sidesR x name := by
  obtain ⟨ti, xs⟩ := x
  have hok := hx.ok
  simp only at hok
  have ht := ok_time xs _ _ hok
  have hT : ∀ j, (timesTo xs xs.length).getD j 0 ≠ 5 := fun j => by
    rw [List.getD_eq_getElem?_getD]
    cases hq : (timesTo xs xs.length)[j]? with
    | none => simp
    | some v => exact (times_ne (ht.2 rfl) ht.1 xs.length (Nat.le_refl _) v (List.mem_of_getElem? hq)).1
  simp only [sidesR]
  congr 1
  rw [sides_forward xs name, sides_forward]
  refine side_fix _ name _ true 0 (fun y hy => ?_) (fun _ => side_head _ name hT xs 0)
  obtain ⟨z, hz, hc, hp⟩ := side_mem _ name xs true 0 y hy
  obtain ⟨e, hr, _, _⟩ := (ok_at _ _ _ hok z hz).run
  have h0 := run_head hr
  refine ⟨?_, ?_⟩
  · unfold hasCueL at hc ⊢
    rw [hp]
    exact cue_part h0 hc
  · rw [hp]
    exact (part_part z.paras name h0).1
end Go.Proofs.YtpjbbpilgfihbaaGreatDoor
/- Sides are right: plain law. Own work of this seat. -/
set_option maxRecDepth 100000
set_option linter.unusedSimpArgs false
set_option linter.unusedVariables false
namespace Go.Proofs.YtpjbbpilgfihbaaGreatDoor
open Go Go.Av Go.RowKit

theorem keep_len (name : List UInt8) (ws : List (List UInt8)) : ∀ cs, (keepC name ws cs).flatten.length ≤ cs.flatten.length
  | [] => by simp [keepC]
  | c :: r => by
    have := keep_len name ws r
    rw [keepC]
    split
    · rw [List.flatten_cons, List.flatten_cons, List.length_append, List.length_append]; omega
    · rw [List.flatten_cons, List.length_append]; omega
theorem part_len {ps : List Pa} (name : List UInt8) (h0 : ∀ p, ps.head? = some p → joins p = false) : (partL ps name).length ≤ ps.length := by
  rw [part_chunks ps name h0, partC_flat]
  have := keep_len name (wordsL name) (chunks ps)
  rwa [chunks_all] at this
theorem dd_sub {acc acc' : List (List UInt8)} {k : List UInt8} (h : ∀ a ∈ acc', a ∈ acc) : ∀ a ∈ dd acc' k, a ∈ dd acc k := by
  intro a ha
  unfold dd at ha ⊢
  have hk : a ∈ acc' ∨ a = k := by
    split at ha
    · exact .inl ha
    · rcases List.mem_append.1 ha with h1 | h1
      · exact .inl h1
      · exact .inr (List.mem_singleton.1 h1)
  split
  · rename_i hin
    rcases hk with h1 | rfl
    · exact h a h1
    · exact hin
  · rcases hk with h1 | rfl
    · exact List.mem_append.2 (.inl (h a h1))
    · simp
theorem sub_dd {acc acc' : List (List UInt8)} {k : List UInt8} (h : ∀ a ∈ acc', a ∈ acc) : ∀ a ∈ acc', a ∈ dd acc k := by
  intro a ha
  unfold dd
  split
  · exact h a ha
  · exact List.mem_append.2 (.inl (h a ha))
theorem side_ok (T : List Int) (name : List UInt8) (n : Nat) (hT : ∀ j, j < n → T.getD j 0 ≠ 5 ∧ 1 ≤ T.getD j 0 ∧ T.getD j 0 ≤ 5) : ∀ (l : List Sc) (acc acc' : List (List UInt8)) (f first : Bool) (i : Nat), i + l.length ≤ n → okFrom acc f l → (∀ a ∈ acc', a ∈ acc) →
    okFrom acc' first (sideF T name first i l)
  | [], _, _, _, _, _, _, _, _ => trivial
  | x :: r, acc, acc', f, first, i, hn, h, hs => by
    simp only [List.length_cons] at hn
    have ht := hT i (by omega)
    rw [sideF]
    split
    · obtain ⟨c1, c2, c3, c4, c5, c6⟩ := h
      obtain ⟨e, hr, h2, h3⟩ := c5.run
      refine ⟨?_, c2, ?_, ?_, ⟨c5.set, c5.len, ?_, part_run name hr h2 h3⟩, ?_⟩
      · rcases c1 with c1 | ⟨a, b, c⟩
        · exact .inl c1
        · exact .inr ⟨a, b, fun hm => c (hs _ hm)⟩
      · simp only [sideOf]
        split
        · exact ht.2
        · exact c3
      · intro hf
        simp only [sideOf, hf, Bool.and_true]
        split
        · exact ht.1
        · rename_i hc; simpa using hc
      · have := part_len name (run_head hr)
        have := c5.many
        simp only [sideOf]; omega
      · exact side_ok T name n hT r _ _ false false (i + 1) (by omega) c6 (dd_sub hs)
    · exact side_ok T name n hT r _ _ false first (i + 1) (by omega) h.2.2.2.2.2 (sub_dd hs)
theorem side_len (T : List Int) (name : List UInt8) : ∀ (l : List Sc) (first : Bool) (i : Nat), (∀ x ∈ l, ∀ p, x.paras.head? = some p → joins p = false) → (sideF T name first i l).length ≤ l.length ∧ paraSum (sideF T name first i l) ≤ paraSum l
  | [], _, _, _ => by simp [sideF]
  | x :: r, first, i, h => by
    have hx := part_len name (h x (by simp))
    rw [sideF]
    split
    · have := side_len T name r false (i + 1) (fun y hy => h y (by simp [hy]))
      simp only [paraSum, List.map_cons, List.sum_cons, List.length_cons, sideOf] at this ⊢
      omega
    · have := side_len T name r first (i + 1) (fun y hy => h y (by simp [hy]))
      simp only [paraSum, List.map_cons, List.sum_cons, List.length_cons] at this ⊢
      omega
/-- sides are right -/
theorem sides_ok {x : Sr} (hx : ScriptOk x) (name : List UInt8) : ScriptOk (sidesR x name) := by
  obtain ⟨ti, xs⟩ := x
  have hok := hx.ok
  have t3 := hx.len
  have t4 := hx.many
  simp only at hok t3 t4
  have ht := ok_time xs _ _ hok
  have hh : ∀ x ∈ xs, ∀ p, x.paras.head? = some p → joins p = false := fun x hm => by
    obtain ⟨e, hr, _, _⟩ := (ok_at _ _ _ hok x hm).run
    exact run_head hr
  have hl := side_len (timesTo xs xs.length) name xs true 0 hh
  rw [← sides_forward] at hl
  refine ⟨hx.title, hx.plain, by simp only [sidesR]; omega, by simp only [sidesR]; omega, ?_⟩
  simp only [sidesR]
  rw [sides_forward]
  refine side_ok _ name xs.length (fun j hj => ?_) xs [] [] true true 0 (by omega) hok (by simp)
  have hj' : j < (timesTo xs xs.length).length := by rw [timesTo_len]; exact hj
  rw [List.getD_eq_getElem?_getD, List.getElem?_eq_getElem hj']
  exact times_ne (ht.2 rfl) ht.1 xs.length (Nat.le_refl _) _ (List.getElem_mem hj')
end Go.Proofs.YtpjbbpilgfihbaaGreatDoor
/- Who speaks in sides speaks there as in the script: plain law. Own work of this seat. -/
set_option maxRecDepth 100000
set_option linter.unusedSimpArgs false
set_option linter.unusedVariables false
namespace Go.Proofs.YtpjbbpilgfihbaaGreatDoor
open Go Go.Av Go.RowKit

/-- the entry of a name -/
def gE (n : List UInt8) (es : List En) : Option En := es.find? fun e => e.role.name == n
def nmE (es : List En) : List (List UInt8) := es.map fun e => e.role.name
theorem cueAt_cons (a : En) (r : List En) (n : List UInt8) : cueAt (a :: r) n = if a.role.name == n then 0 else cueAt r n + 1 := by
  simp only [cueAt, List.findIdx_cons]
  cases a.role.name == n <;> rfl
theorem gE_cons (a : En) (r : List En) (n : List UInt8) : gE n (a :: r) = if a.role.name == n then some a else gE n r := by
  simp only [gE, List.find?_cons]
  cases a.role.name == n <;> rfl
theorem cueAt_nm : ∀ (es : List En) (n : List UInt8), cueAt es n = (nmE es).findIdx (· == n)
  | [], _ => rfl
  | a :: r, n => by
    rw [cueAt_cons, cueAt_nm r n]
    simp only [nmE, List.map_cons, List.findIdx_cons]
    cases a.role.name == n <;> rfl
theorem gE_idx (n : List UInt8) : ∀ es : List En, gE n es = es[cueAt es n]?
  | [] => rfl
  | a :: r => by
    rw [gE_cons, cueAt_cons, gE_idx n r]
    cases a.role.name == n <;> simp
theorem gE_set (n : List UInt8) {m : List UInt8} {e : En} (he : e.role.name = m) : ∀ (es : List En), cueAt es m < es.length → gE n (es.set (cueAt es m) e) = if n = m then some e else gE n es
  | [], h => by simp [cueAt] at h
  | a :: r, h => by
    rw [cueAt_cons] at h ⊢
    by_cases ha : a.role.name = m
    · have : (a.role.name == m) = true := by simpa using ha
      rw [this, if_pos rfl, List.set_cons_zero, gE_cons, gE_cons, he, ha]
      by_cases hn : n = m
      · subst hn; simp
      · have : (m == n) = false := by simpa using fun e => hn e.symm
        simp [this, hn]
    · have hb : (a.role.name == m) = false := by simpa using ha
      rw [hb] at h ⊢
      simp only [Bool.false_eq_true, if_false, List.length_cons] at h ⊢
      rw [List.set_cons_succ, gE_cons, gE_cons, gE_set n he r (by omega)]
      by_cases hn : n = m
      · subst hn; simp [hb]
      · simp [hn]
theorem nm_set {es : List En} {k : Nat} {e : En} (hk : k < es.length) (he : e.role.name = es[k].role.name) : nmE (es.set k e) = nmE es := by
  have hk' : k < (nmE es).length := by simpa [nmE] using hk
  rw [nmE, List.map_set, he]
  have h1 : (List.map (fun e : En => e.role.name) es)[k]'(by simpa using hk) = es[k].role.name := by simp
  rw [← h1]
  exact List.set_getElem_self _

/-- one name's count -/
def cueU (n : List UInt8) (i : Int) : Option En → En
  | none => ⟨⟨n, 0 + (if (-1 : Int) == i then 0 else 1), 0 + 1, 0⟩, i⟩
  | some e => ⟨{ e.role with scenes := e.role.scenes + (if e.last == i then 0 else 1), speeches := e.role.speeches + 1 }, i⟩
def wordU (t : List UInt8) (e : En) : En := { e with role := { e.role with words := e.role.words + ((wordsL t).length : Int) } }
def stepN (n : List UInt8) (i : Int) (s : Option En × Option (List UInt8)) (p : Pa) : Option En × Option (List UInt8) :=
  if p.kind == 2 then (if n = p.text then some (cueU n i s.1) else s.1, some p.text)
  else if p.kind == 4 then (if some n = s.2 then s.1.map (wordU p.text) else s.1, s.2)
  else s
structure Cst (es : List En) (k : Nat) (cur : Option (List UInt8)) : Prop where
  nd : (nmE es).Nodup
  cu : ∀ m, cur = some m → k = cueAt es m ∧ k < es.length

theorem name_idx {es : List En} {m : List UInt8} (h : cueAt es m < es.length) : es[cueAt es m].role.name = m := cueAt_hit h
theorem step_g (n : List UInt8) (i : Int) {es : List En} {k : Nat} {cur : Option (List UInt8)} (p : Pa) (hI : Cst es k cur) (h4 : p.kind = 4 → cur ≠ none) :
    Cst (castStep i (es, k) p).1 (castStep i (es, k) p).2 (stepN n i (gE n es, cur) p).2 ∧ gE n (castStep i (es, k) p).1 = (stepN n i (gE n es, cur) p).1 := by
  unfold castStep stepN
  by_cases k2 : (p.kind == 2) = true
  · simp only [k2, if_true]
    by_cases hit : cueAt es p.text < es.length
    · simp only [hit, if_true]
      have hgd : es.getD (cueAt es p.text) e0 = es[cueAt es p.text] := by simp [List.getD, hit]
      have hnm : nmE (putCue es (cueAt es p.text) i) = nmE es := nm_set hit (by simp only [hgd])
      refine ⟨⟨by rw [hnm]; exact hI.nd, fun m hm => ?_⟩, ?_⟩
      · cases hm
        refine ⟨by rw [cueAt_nm (putCue es _ i), hnm, ← cueAt_nm], by simp [putCue]; exact hit⟩
      · rw [putCue, gE_set n (m := p.text) (by simp only [hgd]; exact name_idx hit) es hit]
        by_cases hn : n = p.text
        · subst hn
          simp only [if_true]
          have : gE p.text es = some es[cueAt es p.text] := by rw [gE_idx, List.getElem?_eq_getElem hit]
          rw [this, cueU, hgd]
        · simp only [hn, if_false]
    · simp only [hit, if_false]
      have hle := cueAt_le es p.text
      have hkk : cueAt es p.text = es.length := by omega
      rw [hkk]
      have hms := cueAt_miss hit
      have hfresh : cueAt (es ++ [⟨⟨p.text, 0, 0, 0⟩, -1⟩]) p.text = es.length := by
        rw [cueAt_nm]
        simp only [nmE, List.map_append, List.map_cons, List.map_nil]
        rw [List.findIdx_append]
        have h0 : (List.map (fun e : En => e.role.name) es).findIdx (· == p.text) = es.length := by
          have := cueAt_nm es p.text
          rw [hkk] at this
          exact this.symm
        rw [h0]
        simp
      have hnd : (nmE (es ++ [⟨⟨p.text, 0, 0, 0⟩, -1⟩])).Nodup := by
        simp only [nmE, List.map_append, List.map_cons, List.map_nil]
        rw [List.nodup_append]
        refine ⟨hI.nd, by simp, fun a ha b hb => ?_⟩
        rw [List.mem_singleton] at hb
        subst hb
        obtain ⟨e, he, rfl⟩ := List.mem_map.1 ha
        exact hms e he
      have hin : es.length < (es ++ [(⟨⟨p.text, 0, 0, 0⟩, -1⟩ : En)]).length := by simp
      have hgd : (es ++ [(⟨⟨p.text, 0, 0, 0⟩, -1⟩ : En)]).getD es.length e0 = ⟨⟨p.text, 0, 0, 0⟩, -1⟩ := by simp [List.getD]
      have hat : (es ++ [(⟨⟨p.text, 0, 0, 0⟩, -1⟩ : En)])[es.length]'hin = ⟨⟨p.text, 0, 0, 0⟩, -1⟩ := by simp
      have hnm : nmE (putCue (es ++ [⟨⟨p.text, 0, 0, 0⟩, -1⟩]) es.length i) = nmE (es ++ [⟨⟨p.text, 0, 0, 0⟩, -1⟩]) := nm_set hin (by simp only [hgd, hat])
      refine ⟨⟨by rw [hnm]; exact hnd, fun m hm => ?_⟩, ?_⟩
      · cases hm
        refine ⟨by rw [cueAt_nm (putCue _ _ i), hnm, ← cueAt_nm]; exact hfresh.symm, by simp [putCue]⟩
      · have := gE_set n (m := p.text) (e := ⟨{ (⟨p.text, 0, 0, 0⟩ : Ro) with scenes := 0 + (if (-1 : Int) == i then 0 else 1), speeches := 0 + 1 }, i⟩) rfl (es ++ [⟨⟨p.text, 0, 0, 0⟩, -1⟩]) (by rw [hfresh]; exact hin)
        rw [hfresh] at this
        rw [putCue, hgd, this]
        by_cases hn : n = p.text
        · subst hn
          simp only [if_true]
          have hno : gE p.text es = none := by rw [gE_idx, hkk]; simp
          rw [hno, cueU]
        · simp only [hn, if_false]
          rw [gE, List.find?_append]
          have : (p.text == n) = false := by simpa using fun e => hn e.symm
          simp [this, gE]
  · simp only [k2, Bool.false_eq_true, if_false]
    by_cases k4 : (p.kind == 4) = true
    · simp only [k4, if_true]
      cases hc : cur with
      | none => exact (h4 (by simpa using k4) hc).elim
      | some m =>
        obtain ⟨hk, hlt⟩ := hI.cu m hc
        subst hk
        have hgd : es.getD (cueAt es m) e0 = es[cueAt es m] := by simp [List.getD, hlt]
        have hnm : ∀ e : En, e.role.name = es[cueAt es m].role.name → nmE (es.set (cueAt es m) e) = nmE es := fun e he => nm_set hlt he
        have hnm2 := hnm { es.getD (cueAt es m) e0 with role := { (es.getD (cueAt es m) e0).role with words := (es.getD (cueAt es m) e0).role.words + ((wordsL p.text).length : Int) } } (by simp only [hgd])
        refine ⟨⟨by rw [hnm2]; exact hI.nd, fun m' hm => ?_⟩, ?_⟩
        · cases hm
          exact ⟨by rw [cueAt_nm (es.set _ _), hnm2, ← cueAt_nm], by simpa using hlt⟩
        · rw [gE_set n (m := m) (by simp only [hgd]; exact name_idx hlt) es hlt]
          by_cases hn : n = m
          · subst hn
            have : gE n es = some es[cueAt es n] := by rw [gE_idx, List.getElem?_eq_getElem hlt]
            rw [this]
            simp only [if_true, Option.map_some, wordU, hgd]
          · have : ¬ (some n = some m) := by simpa using hn
            simp only [hn, this, if_false]
    · simp only [k4, Bool.false_eq_true, if_false]
      exact ⟨hI, by first | rfl | trivial⟩

theorem fold_g (n : List UInt8) (i : Int) : ∀ (ps : List Pa) (l e : Int) (es : List En) (k : Nat) (cur : Option (List UInt8)), runL l ps = some e → ((l = 2 ∨ l = 3 ∨ l = 4) → cur ≠ none) → Cst es k cur →
    (nmE (ps.foldl (castStep i) (es, k)).1).Nodup ∧ gE n (ps.foldl (castStep i) (es, k)).1 = (ps.foldl (stepN n i) (gE n es, cur)).1
  | [], _, _, _, _, _, _, _, hI => ⟨hI.nd, rfl⟩
  | p :: r, l, e, es, k, cur, h, hl, hI => by
    simp only [runL] at h
    split at h
    rotate_left
    · cases h
    rename_i hok
    simp only [Bool.and_eq_true] at hok
    have hf := hok.2
    have h4 : p.kind = 4 → cur ≠ none := fun hp => hl (by
      rw [hp] at hf
      simp [followsL] at hf
      omega)
    obtain ⟨h1, h2⟩ := step_g n i p hI h4
    have h5 : (p.kind = 2 ∨ p.kind = 3 ∨ p.kind = 4) → (stepN n i (gE n es, cur) p).2 ≠ none := by
      unfold stepN
      rintro (hp | hp | hp)
      · simp [hp]
      · have : cur ≠ none := hl (by
          rw [hp] at hf
          simp [followsL] at hf
          omega)
        simp [hp, this]
      · simp [hp, h4 hp]
    have := fold_g n i r p.kind e _ _ _ h h5 h1
    rw [List.foldl_cons, List.foldl_cons]
    rw [h2] at this
    exact this

/-- a chunk counts for a name if it begins with its cue -/
def chN (n : List UInt8) (i : Int) (o : Option En) (c : List Pa) : Option En := if isCue (hdP c) n then (c.foldl (stepN n i) (o, none)).1 else o
theorem tail_no {n m : List UInt8} (hm : n ≠ m) (i : Int) : ∀ (t : List Pa) (o : Option En), (∀ q ∈ t, joins q = true) → t.foldl (stepN n i) (o, some m) = (o, some m)
  | [], _, _ => rfl
  | q :: t, o, h => by
    have hq := h q (by simp)
    have : stepN n i (o, some m) q = (o, some m) := by
      have h1 : (q.kind == 2) = false := by
        simp only [joins, Bool.or_eq_true, beq_iff_eq] at hq
        simp; omega
      simp [stepN, h1, hm]
    rw [List.foldl_cons, this]
    exact tail_no hm i t o fun x hx => h x (by simp [hx])
theorem chunk_fold (n : List UInt8) (i : Int) {c : List Pa} (hw : WfC c) (hf : Free c) (o : Option En) (cur : Option (List UInt8)) : (c.foldl (stepN n i) (o, cur)).1 = chN n i o c := by
  cases c with
  | nil => exact hw.elim
  | cons p t =>
    have hd : hdP (p :: t) = p := rfl
    unfold chN
    rw [hd, List.foldl_cons, List.foldl_cons]
    by_cases k2 : (p.kind == 2) = true
    · have hs : ∀ cur, stepN n i (o, cur) p = (if n = p.text then some (cueU n i o) else o, some p.text) := fun cur => by simp [stepN, k2]
      rw [hs, hs]
      by_cases hn : n = p.text
      · have : isCue p n = true := by simp only [isCue, k2, hn, beq_self_eq_true, Bool.and_self]
        rw [this, if_pos rfl]
      · have hc : isCue p n = false := by
          have : (p.text == n) = false := by simpa using fun e => hn e.symm
          simp [isCue, this]
        rw [hc, if_neg hn, tail_no hn i t o hw.2]
        simp
    · have k2' : (p.kind == 2) = false := by simpa using k2
      have hc : isCue p n = false := by simp [isCue, k2']
      rw [hc]
      have hj := join_no hw.1
      have ht : t = [] := by
        cases t with
        | nil => rfl
        | cons q t =>
          obtain ⟨e, he, _⟩ := hf 0 (by decide) (by decide)
          simp only [runL] at he
          split at he
          · split at he
            · rename_i hq
              simp only [Bool.and_eq_true, followsL] at hq
              have hq2 := hq.2
              have hjq := hw.2 q (by simp)
              simp only [joins, Bool.or_eq_true, beq_iff_eq] at hjq
              have kk : p.kind ≠ 2 := by simpa using k2'
              rcases hjq with hjq | hjq <;> simp [hjq] at hq2 <;> omega
            · cases he
          · cases he
      subst ht
      have k4 : (p.kind == 4) = false := by simpa using hj.2
      simp [stepN, k2', k4]
theorem chunks_fold (n : List UInt8) (i : Int) : ∀ (cs : List (List Pa)) (o : Option En) (cur : Option (List UInt8)), (∀ c ∈ cs, WfC c ∧ Free c) → (cs.flatten.foldl (stepN n i) (o, cur)).1 = cs.foldl (chN n i) o
  | [], _, _, _ => rfl
  | c :: r, o, cur, h => by
    have hc := h c (by simp)
    rw [List.flatten_cons, List.foldl_append, List.foldl_cons, ← chunk_fold n i hc.1 hc.2 o cur]
    exact chunks_fold n i r _ _ fun x hx => h x (by simp [hx])
theorem keep_fold (n : List UInt8) (i : Int) (ws : List (List UInt8)) : ∀ (cs : List (List Pa)) (o : Option En), (keepC n ws cs).foldl (chN n i) o = cs.foldl (chN n i) o
  | [], _ => rfl
  | c :: r, o => by
    rw [keepC]
    split
    · rw [List.foldl_cons, List.foldl_cons, keep_fold n i ws r]
    · rename_i hc
      have : isCue (hdP c) n = false := by
        cases hq : isCue (hdP c) n with
        | false => rfl
        | true => unfold ownC at hc; rw [hq] at hc; simp at hc
      rw [List.foldl_cons, keep_fold n i ws r]
      congr 1
      simp [chN, this]

/-- the same role, counted in scenes of other places -/
def Rl (i j : Int) : Option En → Option En → Prop
  | none, none => True
  | some a, some b => a.role = b.role ∧ (a.last == i) = (b.last == j) ∧ a.last ≤ i ∧ b.last ≤ j
  | _, _ => False
theorem Rl.step {i j : Int} (hi : 0 ≤ i) (hj : 0 ≤ j) (n : List UInt8) (p : Pa) {o o' : Option En} (cur : Option (List UInt8)) (h : Rl i j o o') :
    Rl i j (stepN n i (o, cur) p).1 (stepN n j (o', cur) p).1 ∧ (stepN n i (o, cur) p).2 = (stepN n j (o', cur) p).2 := by
  unfold stepN
  split
  · refine ⟨?_, rfl⟩
    simp only
    split
    · cases o <;> cases o'
      · have e1 : ((-1 : Int) == i) = false := by simp; omega
        have e2 : ((-1 : Int) == j) = false := by simp; omega
        simp [Rl, cueU, e1, e2]
      · exact h.elim
      · exact h.elim
      · obtain ⟨h1, h2, h3, h4⟩ := h
        simp [Rl, cueU, h1, h2]
    · exact h
  · split
    · refine ⟨?_, rfl⟩
      simp only
      split
      · cases o <;> cases o'
        · trivial
        · exact h.elim
        · exact h.elim
        · obtain ⟨h1, h2, h3, h4⟩ := h
          simp [Rl, wordU, h1, h2, h3, h4]
      · exact h
    · exact ⟨h, rfl⟩
theorem Rl.fold {i j : Int} (hi : 0 ≤ i) (hj : 0 ≤ j) (n : List UInt8) : ∀ (ps : List Pa) {o o' : Option En} (cur : Option (List UInt8)), Rl i j o o' → Rl i j (ps.foldl (stepN n i) (o, cur)).1 (ps.foldl (stepN n j) (o', cur)).1
  | [], _, _, _, h => h
  | p :: r, o, o', cur, h => by
    obtain ⟨h1, h2⟩ := h.step hi hj n p cur
    rw [List.foldl_cons, List.foldl_cons]
    have e1 : stepN n i (o, cur) p = ((stepN n i (o, cur) p).1, (stepN n i (o, cur) p).2) := rfl
    have e2 : stepN n j (o', cur) p = ((stepN n j (o', cur) p).1, (stepN n i (o, cur) p).2) := by rw [h2]
    rw [e1, e2]
    exact Rl.fold hi hj n r _ h1
theorem Rl.chunks {i j : Int} (hi : 0 ≤ i) (hj : 0 ≤ j) (n : List UInt8) : ∀ (cs : List (List Pa)) {o o' : Option En}, Rl i j o o' → Rl i j (cs.foldl (chN n i) o) (cs.foldl (chN n j) o')
  | [], _, _, h => h
  | c :: r, o, o', h => by
    rw [List.foldl_cons, List.foldl_cons]
    refine Rl.chunks hi hj n r ?_
    unfold chN
    split
    · exact h.fold hi hj n c none
    · exact h
def Rb (i j : Int) : Option En → Option En → Prop
  | none, none => True
  | some a, some b => a.role = b.role ∧ a.last < i ∧ b.last < j
  | _, _ => False
theorem Rb.rl {i j : Int} {o o' : Option En} (h : Rb i j o o') : Rl i j o o' := by
  cases o <;> cases o'
  · trivial
  · exact h.elim
  · exact h.elim
  · obtain ⟨h1, h2, h3⟩ := h
    refine ⟨h1, ?_, by omega, by omega⟩
    have e1 : ∀ a b : Int, a < b → (a == b) = false := fun a b h => by simp; omega
    rw [e1 _ _ h2, e1 _ _ h3]
theorem Rl.rb {i j : Int} {o o' : Option En} (h : Rl i j o o') : Rb (i + 1) (j + 1) o o' := by
  cases o <;> cases o'
  · trivial
  · exact h.elim
  · exact h.elim
  · obtain ⟨h1, h2, h3, h4⟩ := h
    exact ⟨h1, by omega, by omega⟩
theorem Rb.left {i j : Int} {o o' : Option En} (h : Rb i j o o') : Rb (i + 1) j o o' := by
  cases o <;> cases o'
  · trivial
  · exact h.elim
  · exact h.elim
  · obtain ⟨h1, h2, h3⟩ := h
    exact ⟨h1, by omega, h3⟩

theorem no_cue (n : List UInt8) (i : Int) : ∀ (ps : List Pa) (o : Option En) (cur : Option (List UInt8)), (∀ p ∈ ps, isCue p n = false) → cur ≠ some n → (ps.foldl (stepN n i) (o, cur)).1 = o
  | [], _, _, _, _ => rfl
  | p :: r, o, cur, h, hc => by
    have hp := h p (by simp)
    rw [List.foldl_cons]
    by_cases k2 : (p.kind == 2) = true
    · have hn : ¬ n = p.text := fun e => by simp only [isCue, k2, e, beq_self_eq_true, Bool.and_self] at hp; cases hp
      have hs : stepN n i (o, cur) p = (o, some p.text) := by simp [stepN, k2, hn]
      rw [hs]
      exact no_cue n i r o _ (fun x hx => h x (by simp [hx])) (by simpa using fun e => hn e.symm)
    · have hs : stepN n i (o, cur) p = (o, cur) := by
        have k2' : (p.kind == 2) = false := by simpa using k2
        have : ¬ some n = cur := fun e => hc e.symm
        simp [stepN, k2', this]
      rw [hs]
      exact no_cue n i r o _ (fun x hx => h x (by simp [hx])) hc
theorem cue_none {x : Sc} {n : List UInt8} (h : hasCueL x n = false) : ∀ p ∈ x.paras, isCue p n = false := by
  intro p hp
  have := List.any_eq_false.1 h p hp
  rw [cue_eq] at this
  simpa using this
def RunOk (x : Sc) : Prop := ∃ e, runL 0 x.paras = some e ∧ e ≠ 2 ∧ e ≠ 3
theorem scene_g (n : List UInt8) (i : Int) {es : List En} (hn : (nmE es).Nodup) {x : Sc} (hx : RunOk x) :
    (nmE (castScene i es x)).Nodup ∧ gE n (castScene i es x) = (x.paras.foldl (stepN n i) (gE n es, none)).1 := by
  obtain ⟨e, hr, _, _⟩ := hx
  exact fold_g n i x.paras 0 e es 0 none hr (by decide) ⟨hn, by simp⟩
theorem from_none (n : List UInt8) : ∀ (xs : List Sc) (i : Int) (es : List En), (nmE es).Nodup → (∀ x ∈ xs, RunOk x) → (∀ x ∈ xs, hasCueL x n = false) → gE n (castFrom i es xs) = gE n es
  | [], _, _, _, _, _ => rfl
  | x :: r, i, es, hn, hr, hc => by
    obtain ⟨h1, h2⟩ := scene_g n i hn (hr x (by simp))
    rw [castFrom, from_none n r (i + 1) _ h1 (fun y hy => hr y (by simp [hy])) (fun y hy => hc y (by simp [hy])), h2]
    exact no_cue n i x.paras _ none (cue_none (hc x (by simp))) (by simp)
theorem from_nd : ∀ (xs : List Sc) (i : Int) (es : List En), (nmE es).Nodup → (∀ x ∈ xs, RunOk x) → (nmE (castFrom i es xs)).Nodup
  | [], _, _, hn, _ => hn
  | x :: r, i, es, hn, hr => by
    obtain ⟨h1, _⟩ := scene_g [] i hn (hr x (by simp))
    exact from_nd r (i + 1) _ h1 (fun y hy => hr y (by simp [hy]))
theorem side_role (T : List Int) (n : List UInt8) : ∀ (xs : List Sc) (first : Bool) (t : Nat) (i j : Int) (es es' : List En), 0 ≤ i → 0 ≤ j → (nmE es).Nodup → (nmE es').Nodup → (∀ x ∈ xs, RunOk x) → Rb i j (gE n es) (gE n es') →
    (gE n (castFrom i es xs)).map (·.role) = (gE n (castFrom j es' (sideF T n first t xs))).map (·.role)
  | [], _, _, i, j, es, es', _, _, _, _, _, h => by
    simp only [sideF, castFrom]
    generalize gE n es = a at h ⊢
    generalize gE n es' = b at h ⊢
    cases a <;> cases b
    · rfl
    · exact h.elim
    · exact h.elim
    · exact congrArg some h.1
  | x :: r, first, t, i, j, es, es', hi, hj, hn, hn', hr, h => by
    have hx := hr x (by simp)
    obtain ⟨h1, h2⟩ := scene_g n i hn hx
    rw [castFrom, sideF]
    split
    · obtain ⟨e, hrun, he2, he3⟩ := hx
      have hx' : RunOk (sideOf T n first t x) := part_run n hrun he2 he3
      obtain ⟨h1', h2'⟩ := scene_g n j hn' hx'
      rw [castFrom]
      refine side_role T n r false (t + 1) (i + 1) (j + 1) _ _ (by omega) (by omega) h1 h1' (fun y hy => hr y (by simp [hy])) ?_
      rw [h2, h2']
      have h0 := run_head hrun
      have hw := chunks_wf x.paras h0
      have hf := free_all (chunks x.paras) 0 e hw (by rw [chunks_all]; exact hrun) he2 he3
      have e1 : (x.paras.foldl (stepN n i) (gE n es, none)).1 = (chunks x.paras).foldl (chN n i) (gE n es) := by
        rw [← chunks_fold n i (chunks x.paras) _ none fun c hc => ⟨hw c hc, hf c hc⟩, chunks_all]
      have e2 : ((sideOf T n first t x).paras.foldl (stepN n j) (gE n es', none)).1 = (chunks x.paras).foldl (chN n j) (gE n es') := by
        have hp : (sideOf T n first t x).paras = (keepC n (wordsL n) (chunks x.paras)).flatten := by
          rw [← partC_flat, ← part_chunks _ _ h0]; rfl
        rw [hp, chunks_fold n j _ _ none fun c hc => ⟨hw c (keep_sub n _ _ c hc), hf c (keep_sub n _ _ c hc)⟩, keep_fold]
      rw [e1, e2]
      exact (h.rl.chunks hi hj n _).rb
    · rename_i hc
      refine side_role T n r first (t + 1) (i + 1) j _ _ (by omega) hj h1 hn' (fun y hy => hr y (by simp [hy])) ?_
      rw [h2, no_cue n i x.paras _ none (cue_none (by simpa using hc)) (by simp)]
      exact h.left

theorem gE_mem {n : List UInt8} {es : List En} {e : En} (h : gE n es = some e) : e ∈ es := List.mem_of_find?_eq_some h
theorem gE_of : ∀ {es : List En} {e : En}, (nmE es).Nodup → e ∈ es → gE e.role.name es = some e
  | a :: r, e, hn, he => by
    rw [gE_cons]
    rcases List.mem_cons.1 he with rfl | he
    · simp
    · simp only [nmE, List.map_cons, List.nodup_cons] at hn
      have : a.role.name ≠ e.role.name := fun h => hn.1 (by rw [h]; exact List.mem_map.2 ⟨e, he, rfl⟩)
      have hb : (a.role.name == e.role.name) = false := by simpa using this
      rw [hb]
      exact gE_of hn.2 he
theorem runs_ok {x : Sr} (hx : ScriptOk x) : ∀ y ∈ x.scenes, RunOk y := fun y hy => (ok_at _ _ _ hx.ok y hy).run

/-- sides say all that somebody says -/
theorem sides_role {x : Sr} (hx : ScriptOk x) {r : Ro} (hr : r ∈ castL x) : r ∈ castL (sidesR x r.name) := by
  obtain ⟨e, he, rfl⟩ := List.mem_map.1 hr
  have hnd := from_nd x.scenes 0 [] List.nodup_nil (runs_ok hx)
  have hg := gE_of hnd he
  have := side_role (timesTo x.scenes x.scenes.length) e.role.name x.scenes true 0 0 0 [] [] (by omega) (by omega) List.nodup_nil List.nodup_nil (runs_ok hx) trivial
  rw [hg, ← sides_forward] at this
  simp only [Option.map_some] at this
  cases hq : gE e.role.name (castFrom 0 [] (sideTo x.scenes e.role.name x.scenes.length)) with
  | none => rw [hq] at this; cases this
  | some e' =>
    rw [hq] at this
    simp only [Option.map_some, Option.some.injEq] at this
    exact List.mem_map.2 ⟨e', gE_mem hq, this.symm⟩
theorem side_ne (T : List Int) (n : List UInt8) : ∀ (xs : List Sc) (first : Bool) (i : Nat), (∃ x ∈ xs, hasCueL x n = true) → sideF T n first i xs ≠ []
  | [], _, _, h => by obtain ⟨x, hx, _⟩ := h; cases hx
  | x :: r, first, i, h => by
    rw [sideF]
    split
    · simp
    · rename_i hc
      refine side_ne T n r first (i + 1) ?_
      obtain ⟨y, hy, h2⟩ := h
      rcases List.mem_cons.1 hy with rfl | hy
      · exact (hc h2).elim
      · exact ⟨y, hy, h2⟩
/-- whoever is in the cast has a name, and sides -/
theorem cast_name {x : Sr} (hx : ScriptOk x) {r : Ro} (hr : r ∈ castL x) : nameL r.name = true ∧ r.name.length ≤ 30 ∧ (sidesR x r.name).scenes ≠ [] := by
  obtain ⟨e, he, rfl⟩ := List.mem_map.1 hr
  have hnd := from_nd x.scenes 0 [] List.nodup_nil (runs_ok hx)
  have hg := gE_of hnd he
  have hex : ∃ y ∈ x.scenes, hasCueL y e.role.name = true := by
    refine Classical.byContradiction fun hno => ?_
    have := from_none e.role.name x.scenes 0 [] List.nodup_nil (runs_ok hx) (fun y hy => by
      cases hq : hasCueL y e.role.name with
      | false => rfl
      | true => exact (hno ⟨y, hy, hq⟩).elim)
    rw [hg] at this
    cases this
  have hne : (sidesR x e.role.name).scenes ≠ [] := by
    simp only [sidesR]
    rw [sides_forward]
    exact side_ne _ _ _ _ _ hex
  obtain ⟨y, hy, hc⟩ := hex
  obtain ⟨p, hp, hq⟩ := List.any_eq_true.1 hc
  obtain ⟨e2, hrun, _, _⟩ := runs_ok hx y hy
  have hpo := run_all _ _ _ hrun p hp
  simp only [eqP, Bool.and_eq_true, beq_iff_eq] at hq
  have hnm : nameL e.role.name = true := by
    simp only [paraOk, Bool.and_eq_true, Bool.or_eq_true, decide_eq_true_eq] at hpo
    have := hpo.2.2.2.2.2.1
    rw [← hq.1, ← hq.2] at this
    simpa using this
  refine ⟨hnm, ?_, hne⟩
  have h30 := hnm
  simp only [nameL, properL, Bool.and_eq_true, Bool.not_eq_true', decide_eq_false_iff_not] at h30
  have h31 := h30.2.1
  omega
end Go.Proofs.YtpjbbpilgfihbaaGreatDoor
