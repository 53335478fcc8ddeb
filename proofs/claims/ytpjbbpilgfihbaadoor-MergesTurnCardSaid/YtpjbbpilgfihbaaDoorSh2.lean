/- Differ. Own work of this seat. -/
import Derived.Test.YtpjbbpilgfihbaaDoorSg
namespace Go.Proofs.YtpjbbpilgfihbaaDoor
open Go Go.Av Go.RowKit
attribute [local go_sem ↓] br_true br_false dbr_true dbr_false
attribute [local go_sem] run cont br dbr dx dxc dgrd dyld dres dcall calm fieldPlace? allHas step1 opN grdN resN condN exitN stopN exitIt dOk xop xbin xint xarith xstr xbool xpick xnot xneg xextract xpart xpartOk xindex xfieldF fieldD xnew xbox xalloc xfieldAddr xptrAddIf xindexAddr xloadC xload putCells reElem xstoreB xstore xconv xtext xlen xlen2 xcall xfill xbuild cut rep xbuildSlice xbuildSliceD isRow elemD isU8 ev evs evp Go.Av.put Go.Av.get ofConst yldD yldV args0 cellsOf cond_true cond_false decide_true decide_false decide_eq_true_eq decide_eq_false_iff_not List.getElem?_cons_zero List.getElem?_cons_succ List.getElem?_nil List.getD_cons_zero List.getD_cons_succ List.getD_nil List.set_cons_zero List.set_cons_succ List.length_cons List.length_nil List.cons_append List.nil_append List.append_nil List.all_cons List.all_nil List.map_cons List.map_nil List.take_succ_cons List.take_zero List.drop_succ_cons List.drop_zero Bool.and_true Bool.true_and Bool.and_self Bool.and_false Bool.false_and one Go.Av.frozen beq_self_eq_true true_and and_true forall_const false_implies implies_true and_self Option.map_some Option.map_none Nat.zero_add Nat.add_zero Nat.zero_mul Nat.mul_one Nat.one_mul Int.toNat_zero ne_eq not_false_eq_true not_true_eq_false Bool.true_eq_false Bool.false_eq_true List.toList_toArray inr Go.Av.byteOf isByte decide_eq_decide Bool.not_true Bool.not_false Bool.not_eq_true' Bool.or_true Bool.true_or Bool.or_false Bool.false_or ge_iff_le gt_iff_lt and_assoc Bool.decide_eq_true beq_iff_eq beq_eq_false_iff_ne bne_iff_ne bne_self_eq_false if_true if_false Bool.and_eq_true Bool.or_eq_true Bool.and_eq_false_imp Bool.or_eq_false_iff Bool.not_eq_false' has Option.isSome_some Option.isSome_none Int.toNat_natCast Int.cast_ofNat_Int List.length_append xapp2 xapp xappS xappD xappB notInt srcOf srcB byteAV splice' xcut xcutS xcutF xcutB xcutN xcut0 cutL loOf hiOf evo xmake zelem xmax xcopy2 xcopyS xcopyB xnil xcut3 ixOf xclear2 xclearB List.getElem?_toArray xbin2 xnileq xempty xmkmap xmput xmputB xmputF isKey keyEq mfind xbin3 xeqs xeqop eqFs bothB leafEq
set_option maxRecDepth 100000
set_option linter.unusedSimpArgs false
set_option linter.unusedVariables false

theorem hb7 : hasBody Tryd.prog 7 = true := by kernel_rfl
theorem ts37 : tsize Tryd.prog 37 = 3 := by kernel_rfl
theorem ts26 : tsize Tryd.prog 26 = 1 := by kernel_rfl
theorem za37 : zav Tryd.prog 37 = [.int .i64 0, .int .i64 0, .raw (.slice none 0 0)] := by kernel_rfl
theorem tb37 : tbytes Tryd.prog 37 = 40 := by kernel_rfl

theorem strs_frz (l : List (List UInt8)) : (flat (strs l)).all Av.frozen = true := by rw [flat_strs]; simp [Av.frozen]
theorem clone_pc (l : List (List UInt8)) (hl : l.length ≤ 1000000) : Pc Tryd.prog 15 [.fz 1 (strs l)] (· = .fz 1 (strs l)) :=
  pc_of_ct (by simp) (strs_frz l) (clone_ct [] l hl)

abbrev Edt := Ed (List UInt8)
def edAV (e : Edt) : AV := .agg [.int .i64 (e.at' : Nat), .int .i64 (e.drop : Nat), .fz 1 (strs e.add)]
def edsAV (l : List Edt) : List AV := l.map edAV
theorem eds_len (l : List Edt) : (edsAV l).length = l.length := by simp [edsAV]
theorem eds_dry : ∀ l : List Edt, (flat (edsAV l)).all Av.frozen = true
  | [] => rfl
  | p :: l => by simp only [edsAV, List.map_cons, flat, edAV, cellsOf, List.all_append, Bool.and_eq_true]; exact ⟨by simp [Av.frozen], eds_dry l⟩
theorem eds_add (l : List Edt) (e : Edt) : edsAV l ++ [edAV e] = edsAV (l ++ [e]) := by simp [edsAV]
theorem prs_get {l : List (Nat × Nat)} {i : Nat} (h : i < l.length) : (prs l).getD i .any = .agg [.int .i64 (l[i].1 : Nat), .int .i64 (l[i].2 : Nat)] := by simp [prs, List.getD, h]
theorem pairsL_rise (a b : List (List UInt8)) : Rise a b 0 0 (pairsL a b) := by
  unfold pairsL
  split
  · exact keptL_rise a b a b 0 0 rfl rfl (by omega) (by omega)
  · exact (keptL_rise b a b a 0 0 rfl rfl (by omega) (by omega)).swp
theorem pairsL_len (a b : List (List UInt8)) (ha : a.length ≤ 3000) (hb : b.length ≤ 3000) : (pairsL a b).length ≤ 3000 := by
  unfold pairsL
  split
  · exact Nat.le_trans (keptL_len _ _ _ _) ha
  · rw [List.length_map]; exact Nat.le_trans (keptL_len _ _ _ _) hb
theorem strs_cut (l : List (List UInt8)) (i j : Nat) : (List.take j (strs l)).drop i = strs ((l.drop i).take (j - i)) := by
  rw [List.drop_take]; simp

theorem stepQ {a b : List (List UInt8)} {ps Q : List (Nat × Nat)} {t i j : Nat} (hQ : Q = ps ++ [(a.length, b.length)]) (ht : t ≤ ps.length) (hr : Rise a b i j (ps.drop t)) :
    ∃ x y, Q[t]? = some (x, y) ∧ i ≤ x ∧ j ≤ y ∧ x ≤ a.length ∧ y ≤ b.length ∧ (t + 1 = Q.length ∨ (t + 1 ≤ ps.length ∧ Rise a b (x + 1) (y + 1) (ps.drop (t + 1)))) ∧
      edq b i j (Q.drop t) = (if i < x ∨ j < y then [⟨i, x - i, (b.drop j).take (y - j)⟩] else []) ++ edq b (x + 1) (y + 1) (Q.drop (t + 1)) := by
  subst hQ
  rcases Nat.lt_or_ge t ps.length with h | h
  · rw [List.drop_eq_getElem_cons h] at hr
    obtain ⟨h1, h2, h3, h4, h5, h6⟩ := hr
    refine ⟨ps[t].1, ps[t].2, by rw [List.getElem?_append_left h, List.getElem?_eq_getElem h], h1, h2, by omega, by omega, .inr ⟨h, h6⟩, ?_⟩
    rw [List.drop_append_of_le_length (by omega), List.drop_eq_getElem_cons h, List.cons_append, edq, List.drop_append_of_le_length (by omega)]
  · have : t = ps.length := by omega
    subst this
    rw [List.drop_length] at hr
    refine ⟨a.length, b.length, by simp, hr.1, hr.2, Nat.le_refl _, Nat.le_refl _, .inl (by simp), ?_⟩
    have e1 : List.drop ps.length (ps ++ [(a.length, b.length)]) = [(a.length, b.length)] := by simp
    have e2 : List.drop (ps.length + 1) (ps ++ [(a.length, b.length)]) = [] := by simp
    rw [e1, e2]
    simp only [edq]

theorem prs_get' {l : List (Nat × Nat)} {t x y : Nat} (h : l[t]? = some (x, y)) : (prs l).getD t .any = .agg [.int .i64 (x : Nat), .int .i64 (y : Nat)] := by simp [prs, List.getD, h]

theorem differ_pc (a b : List (List UInt8)) (ha : a.length ≤ 3000) (hb : b.length ≤ 3000) :
    Pc Tryd.prog 7 [.fz 1 (strs a), .fz 1 (strs b)] (· = .tup [.fz 3 (edsAV (edits a b 0 0 (pairsL a b))), .int .i64 0]) := by
  refine pc_intro (ct_intro Tryd.func7 rfl Tryd.ntmps7 hb7 (by simp) fun h ρ w => go (N := 65) Tryd.ntmps7 200 ?_)
  have la : decide (3000 < a.length) = false := by simpa using ha
  have lb : decide (3000 < b.length) = false := by simpa using hb
  simp only [go_sem, Nat.reduceAdd, Nat.reduceMul, Nat.reduceSub, Nat.reduceBEq, Nat.reduceLT, Nat.reduceLeDiff, reduceIte, reduceCtorEq, Int.reduceToNat, Int.reduceLE, Int.reduceLT, Int.reduceNe, Int.reduceMul, Int.reduceAdd, Int.reduceSub, Int.reduceDiv, Int.reduceMod, Int.reduceEq, Int.reduceGE, Int.reduceGT, Int.reduceNeg, Int.reduceBEq, Int.reduceBNe, Nat.reduceEqDiff, ts9, Tryd.underlying3, Tryd.underlying4, Tryd.underlying26]
  refine pcall1 (large_pc a) rfl (N := 65) Tryd.ntmps7 rfl (go (N := 65) Tryd.ntmps7 200 ?_)
  simp only [go_sem, Nat.reduceAdd, Nat.reduceMul, Nat.reduceSub, Nat.reduceBEq, Nat.reduceLT, Nat.reduceLeDiff, reduceIte, reduceCtorEq, Int.reduceToNat, Int.reduceLE, Int.reduceLT, Int.reduceNe, Int.reduceMul, Int.reduceAdd, Int.reduceSub, Int.reduceDiv, Int.reduceMod, Int.reduceEq, Int.reduceGE, Int.reduceGT, Int.reduceNeg, Int.reduceBEq, Int.reduceBNe, Nat.reduceEqDiff, la, ts9, Tryd.underlying3, Tryd.underlying4, Tryd.underlying26]
  refine pcall1 (large_pc b) rfl (N := 65) Tryd.ntmps7 rfl (go (N := 65) Tryd.ntmps7 200 ?_)
  simp only [go_sem, Nat.reduceAdd, Nat.reduceMul, Nat.reduceSub, Nat.reduceBEq, Nat.reduceLT, Nat.reduceLeDiff, reduceIte, reduceCtorEq, Int.reduceToNat, Int.reduceLE, Int.reduceLT, Int.reduceNe, Int.reduceMul, Int.reduceAdd, Int.reduceSub, Int.reduceDiv, Int.reduceMod, Int.reduceEq, Int.reduceGE, Int.reduceGT, Int.reduceNeg, Int.reduceBEq, Int.reduceBNe, Nat.reduceEqDiff, lb, ts9, Tryd.underlying3, Tryd.underlying4, Tryd.underlying26]
  refine acall (pairs_ct a b ha hb) (N := 65) Tryd.ntmps7 rfl ?_
  rintro _ _ ⟨rfl, rfl⟩
  have hpl := pairsL_len a b ha hb
  have hr := pairsL_rise a b
  have hq := edq_edits a b (pairsL a b) 0 0
  generalize pairsL a b = ps at hpl hr hq ⊢
  refine goF (N := 65) Tryd.ntmps7 200 ?_
  simp only [go_sem, Nat.reduceAdd, Nat.reduceMul, Nat.reduceSub, Nat.reduceBEq, Nat.reduceLT, Nat.reduceLeDiff, reduceIte, reduceCtorEq, Int.reduceToNat, Int.reduceLE, Int.reduceLT, Int.reduceNe, Int.reduceMul, Int.reduceAdd, Int.reduceSub, Int.reduceDiv, Int.reduceMod, Int.reduceEq, Int.reduceGE, Int.reduceGT, Int.reduceNeg, Int.reduceBEq, Int.reduceBNe, Nat.reduceEqDiff, prs_len, prs_add, strs_len, ts3, ts54, za54, tb54, Tryd.underlying3, Tryd.underlying4, Tryd.underlying26, Tryd.underlying52, Tryd.underlying54]
  refine ⟨.inl trivial, by omega, by omega, ?_⟩
  obtain ⟨Q, hQ⟩ : ∃ Q, Q = ps ++ [(a.length, b.length)] := ⟨_, rfl⟩
  have hQl : ps.length + 1 = Q.length := by rw [hQ]; simp
  rw [← hQ] at hq ⊢
  rw [hQl]
  refine AWp.shift (Shift.nilsl 6 3 rfl) ?_
  refine aloop (ι := Nat × Nat × Nat × List Edt) (fun x => Q.length - x.1)
    (fun x => [(28, .int .i64 x.1), (27, .int .i64 Q.length), (26, .sl 0 0 Q.length Q.length), (8, .int .i64 x.2.2.1), (7, .int .i64 x.2.1), (6, .sl 1 0 x.2.2.2.length x.2.2.2.length), (1, .fz 1 (strs b))])
    (fun x => [.arr 2 (prs Q), .arr 3 (edsAV x.2.2.2)])
    (fun x => (x.1 = Q.length ∨ (x.1 ≤ ps.length ∧ Rise a b x.2.1 x.2.2.1 (ps.drop x.1))) ∧ x.2.2.2.length ≤ x.1 ∧ x.2.2.2 ++ edq b x.2.1 x.2.2.1 (Q.drop x.1) = edits a b 0 0 ps) (0, 0, 0, []) ⟨.inr ⟨by simp, hr⟩, by simp, by simpa using hq⟩ ?_ ?_
  · refine Shift.weak ?_
    simp [wk, go_sem, Nat.reduceAdd, Nat.reduceMul, Nat.reduceSub, Nat.reduceBEq, Nat.reduceLT, Nat.reduceLeDiff, reduceIte, reduceCtorEq, Int.reduceToNat, Int.reduceLE, Int.reduceLT, Int.reduceNe, Int.reduceMul, Int.reduceAdd, Int.reduceSub, Int.reduceDiv, Int.reduceMod, Int.reduceEq, Int.reduceGE, Int.reduceGT, Int.reduceNeg, Int.reduceBEq, Int.reduceBNe, Nat.reduceEqDiff, edsAV]
  · rintro ⟨t, i, j, out⟩ ⟨k1, k2, k3⟩ J hJ
    simp only at k1 k2 k3 hJ ⊢
    refine goF (N := 65) Tryd.ntmps7 200 ?_
    by_cases ht : (t : Int) < Q.length
    · obtain ⟨k1, k4⟩ : t ≤ ps.length ∧ Rise a b i j (ps.drop t) := by
        rcases k1 with h | h
        · omega
        · exact h
      obtain ⟨x, y, q1, q2, q3, q4, q5, q6, q7⟩ := stepQ hQ k1 k4
      have htl : t < Q.length := by omega
      rw [q7] at k3
      have hg := prs_get' q1
      by_cases hx : i < x
      · have d1 : decide ((x : Int) > i) = true := by simp; omega
        have hor : i < x ∨ j < y := .inl hx
        simp only [go_sem, Nat.reduceAdd, Nat.reduceMul, Nat.reduceSub, Nat.reduceBEq, Nat.reduceLT, Nat.reduceLeDiff, reduceIte, reduceCtorEq, Int.reduceToNat, Int.reduceLE, Int.reduceLT, Int.reduceNe, Int.reduceMul, Int.reduceAdd, Int.reduceSub, Int.reduceDiv, Int.reduceMod, Int.reduceEq, Int.reduceGE, Int.reduceGT, Int.reduceNeg, Int.reduceBEq, Int.reduceBNe, Nat.reduceEqDiff, ht, prs_len, hg, d1, ts3, ts54, za54, Tryd.underlying3, Tryd.underlying4, Tryd.underlying9, Tryd.underlying26, Tryd.underlying29, Tryd.underlying37, Tryd.underlying52, Tryd.underlying54]
        repeat refine And.intro (by omega) ?_
        refine adraw [.fz 1 (strs ((b.drop j).take (y - j)))] mixed (by decide) (N := 65) Tryd.ntmps7 (by decide) 100 ?_
        simp only [go_sem, Nat.reduceAdd, Nat.reduceMul, Nat.reduceSub, Nat.reduceBEq, Nat.reduceLT, Nat.reduceLeDiff, reduceIte, reduceCtorEq, Int.reduceToNat, Int.reduceLE, Int.reduceLT, Int.reduceNe, Int.reduceMul, Int.reduceAdd, Int.reduceSub, Int.reduceDiv, Int.reduceMod, Int.reduceEq, Int.reduceGE, Int.reduceGT, Int.reduceNeg, Int.reduceBEq, Int.reduceBNe, Nat.reduceEqDiff, prs_len, eds_len, strs_len, strs_cut, hg, ts3, ts9, ts26, ts37, za37, tb37, ts54, za54, Tryd.underlying3, Tryd.underlying4, Tryd.underlying9, Tryd.underlying26, Tryd.underlying29, Tryd.underlying37, Tryd.underlying52, Tryd.underlying54]
        repeat refine And.intro (by omega) ?_
        refine ⟨clone_pc _ (by simp; omega), rfl, ?_⟩
        rw [show (x : Int) - i = ((x - i : Nat) : Int) by omega, show AV.agg [AV.int .i64 (i : Nat), AV.int .i64 ((x - i : Nat) : Int), AV.fz 1 (strs ((b.drop j).take (y - j)))] = edAV ⟨i, x - i, (b.drop j).take (y - j)⟩ from rfl, eds_add]
        rw [if_pos hor, List.singleton_append] at k3
        have hol : out.length + 1 = (out ++ [(⟨i, x - i, (b.drop j).take (y - j)⟩ : Edt)]).length := by simp
        rw [hol]
        repeat refine And.intro (by first | omega | rfl | exact .inl trivial) ?_
        have k3' : (out ++ [(⟨i, x - i, (b.drop j).take (y - j)⟩ : Edt)]) ++ edq b (x + 1) (y + 1) (Q.drop (t + 1)) = edits a b 0 0 ps := by rw [← k3]; simp
        generalize out ++ [(⟨i, x - i, (b.drop j).take (y - j)⟩ : Edt)] = out' at hol k3' ⊢
        refine go (N := 65) Tryd.ntmps7 200 ?_
        simp only [go_sem, Nat.reduceAdd, Nat.reduceMul, Nat.reduceSub, Nat.reduceBEq, Nat.reduceLT, Nat.reduceLeDiff, reduceIte, reduceCtorEq, Int.reduceToNat, Int.reduceLE, Int.reduceLT, Int.reduceNe, Int.reduceMul, Int.reduceAdd, Int.reduceSub, Int.reduceDiv, Int.reduceMod, Int.reduceEq, Int.reduceGE, Int.reduceGT, Int.reduceNeg, Int.reduceBEq, Int.reduceBNe, Nat.reduceEqDiff, Tryd.underlying3, Tryd.underlying4, Tryd.underlying9, Tryd.underlying26, Tryd.underlying29, Tryd.underlying37, Tryd.underlying52, Tryd.underlying54]
        refine adraw [] mixed (by decide) (N := 65) Tryd.ntmps7 (by decide) 100 ?_
        simp only [go_sem, Nat.reduceAdd, Nat.reduceMul, Nat.reduceSub, Nat.reduceBEq, Nat.reduceLT, Nat.reduceLeDiff, reduceIte, reduceCtorEq, Int.reduceToNat, Int.reduceLE, Int.reduceLT, Int.reduceNe, Int.reduceMul, Int.reduceAdd, Int.reduceSub, Int.reduceDiv, Int.reduceMod, Int.reduceEq, Int.reduceGE, Int.reduceGT, Int.reduceNeg, Int.reduceBEq, Int.reduceBNe, Nat.reduceEqDiff, prs_len, eds_len, hg, ts3, ts54, za54, Tryd.underlying3, Tryd.underlying4, Tryd.underlying9, Tryd.underlying26, Tryd.underlying29, Tryd.underlying37, Tryd.underlying52, Tryd.underlying54]
        repeat refine And.intro (by omega) ?_
        refine go (N := 65) Tryd.ntmps7 200 ?_
        simp only [go_sem, Nat.reduceAdd, Nat.reduceMul, Nat.reduceSub, Nat.reduceBEq, Nat.reduceLT, Nat.reduceLeDiff, reduceIte, reduceCtorEq, Int.reduceToNat, Int.reduceLE, Int.reduceLT, Int.reduceNe, Int.reduceMul, Int.reduceAdd, Int.reduceSub, Int.reduceDiv, Int.reduceMod, Int.reduceEq, Int.reduceGE, Int.reduceGT, Int.reduceNeg, Int.reduceBEq, Int.reduceBNe, Nat.reduceEqDiff, Tryd.underlying3, Tryd.underlying4, Tryd.underlying9, Tryd.underlying26, Tryd.underlying29, Tryd.underlying37, Tryd.underlying52, Tryd.underlying54]
        rw [show (t : Int) + 1 = ((t + 1 : Nat) : Int) by omega, show (x : Int) + 1 = ((x + 1 : Nat) : Int) by omega, show (y : Int) + 1 = ((y + 1 : Nat) : Int) by omega]
        repeat refine And.intro (by omega) ?_
        refine ainv (hJ (t + 1, x + 1, y + 1, out') ⟨q6, by simp only; omega, k3'⟩ (by simp only; omega)) (Shift.only 1 1 (by simp) (Nat.le_refl _) rfl (by simp) (eds_dry _) (by simp [dry, prs_dry]) ?_)
        simp [wkg, okg, go_sem, Nat.reduceAdd, Nat.reduceMul, Nat.reduceSub, Nat.reduceBEq, Nat.reduceLT, Nat.reduceLeDiff, reduceIte, reduceCtorEq, Int.reduceToNat, Int.reduceLE, Int.reduceLT, Int.reduceNe, Int.reduceMul, Int.reduceAdd, Int.reduceSub, Int.reduceDiv, Int.reduceMod, Int.reduceEq, Int.reduceGE, Int.reduceGT, Int.reduceNeg, Int.reduceBEq, Int.reduceBNe, Nat.reduceEqDiff, Av.frozen]
      have d1 : decide ((x : Int) > i) = false := by simp; omega
      by_cases hy : j < y
      · have d2 : decide ((y : Int) > j) = true := by simp; omega
        have hor : i < x ∨ j < y := .inr hy
        simp only [go_sem, Nat.reduceAdd, Nat.reduceMul, Nat.reduceSub, Nat.reduceBEq, Nat.reduceLT, Nat.reduceLeDiff, reduceIte, reduceCtorEq, Int.reduceToNat, Int.reduceLE, Int.reduceLT, Int.reduceNe, Int.reduceMul, Int.reduceAdd, Int.reduceSub, Int.reduceDiv, Int.reduceMod, Int.reduceEq, Int.reduceGE, Int.reduceGT, Int.reduceNeg, Int.reduceBEq, Int.reduceBNe, Nat.reduceEqDiff, ht, prs_len, hg, d1, d2, ts3, ts54, za54, Tryd.underlying3, Tryd.underlying4, Tryd.underlying9, Tryd.underlying26, Tryd.underlying29, Tryd.underlying37, Tryd.underlying52, Tryd.underlying54]
        repeat refine And.intro (by omega) ?_
        refine adraw [.fz 1 (strs ((b.drop j).take (y - j)))] mixed (by decide) (N := 65) Tryd.ntmps7 (by decide) 100 ?_
        simp only [go_sem, Nat.reduceAdd, Nat.reduceMul, Nat.reduceSub, Nat.reduceBEq, Nat.reduceLT, Nat.reduceLeDiff, reduceIte, reduceCtorEq, Int.reduceToNat, Int.reduceLE, Int.reduceLT, Int.reduceNe, Int.reduceMul, Int.reduceAdd, Int.reduceSub, Int.reduceDiv, Int.reduceMod, Int.reduceEq, Int.reduceGE, Int.reduceGT, Int.reduceNeg, Int.reduceBEq, Int.reduceBNe, Nat.reduceEqDiff, prs_len, eds_len, strs_len, strs_cut, hg, ts3, ts9, ts26, ts37, za37, tb37, ts54, za54, Tryd.underlying3, Tryd.underlying4, Tryd.underlying9, Tryd.underlying26, Tryd.underlying29, Tryd.underlying37, Tryd.underlying52, Tryd.underlying54]
        repeat refine And.intro (by omega) ?_
        refine ⟨clone_pc _ (by simp; omega), rfl, ?_⟩
        rw [show (x : Int) - i = ((x - i : Nat) : Int) by omega, show AV.agg [AV.int .i64 (i : Nat), AV.int .i64 ((x - i : Nat) : Int), AV.fz 1 (strs ((b.drop j).take (y - j)))] = edAV ⟨i, x - i, (b.drop j).take (y - j)⟩ from rfl, eds_add]
        rw [if_pos hor, List.singleton_append] at k3
        have hol : out.length + 1 = (out ++ [(⟨i, x - i, (b.drop j).take (y - j)⟩ : Edt)]).length := by simp
        rw [hol]
        repeat refine And.intro (by first | omega | rfl | exact .inl trivial) ?_
        have k3' : (out ++ [(⟨i, x - i, (b.drop j).take (y - j)⟩ : Edt)]) ++ edq b (x + 1) (y + 1) (Q.drop (t + 1)) = edits a b 0 0 ps := by rw [← k3]; simp
        generalize out ++ [(⟨i, x - i, (b.drop j).take (y - j)⟩ : Edt)] = out' at hol k3' ⊢
        refine go (N := 65) Tryd.ntmps7 200 ?_
        simp only [go_sem, Nat.reduceAdd, Nat.reduceMul, Nat.reduceSub, Nat.reduceBEq, Nat.reduceLT, Nat.reduceLeDiff, reduceIte, reduceCtorEq, Int.reduceToNat, Int.reduceLE, Int.reduceLT, Int.reduceNe, Int.reduceMul, Int.reduceAdd, Int.reduceSub, Int.reduceDiv, Int.reduceMod, Int.reduceEq, Int.reduceGE, Int.reduceGT, Int.reduceNeg, Int.reduceBEq, Int.reduceBNe, Nat.reduceEqDiff, Tryd.underlying3, Tryd.underlying4, Tryd.underlying9, Tryd.underlying26, Tryd.underlying29, Tryd.underlying37, Tryd.underlying52, Tryd.underlying54]
        refine adraw [] mixed (by decide) (N := 65) Tryd.ntmps7 (by decide) 100 ?_
        simp only [go_sem, Nat.reduceAdd, Nat.reduceMul, Nat.reduceSub, Nat.reduceBEq, Nat.reduceLT, Nat.reduceLeDiff, reduceIte, reduceCtorEq, Int.reduceToNat, Int.reduceLE, Int.reduceLT, Int.reduceNe, Int.reduceMul, Int.reduceAdd, Int.reduceSub, Int.reduceDiv, Int.reduceMod, Int.reduceEq, Int.reduceGE, Int.reduceGT, Int.reduceNeg, Int.reduceBEq, Int.reduceBNe, Nat.reduceEqDiff, prs_len, eds_len, hg, ts3, ts54, za54, Tryd.underlying3, Tryd.underlying4, Tryd.underlying9, Tryd.underlying26, Tryd.underlying29, Tryd.underlying37, Tryd.underlying52, Tryd.underlying54]
        repeat refine And.intro (by omega) ?_
        refine go (N := 65) Tryd.ntmps7 200 ?_
        simp only [go_sem, Nat.reduceAdd, Nat.reduceMul, Nat.reduceSub, Nat.reduceBEq, Nat.reduceLT, Nat.reduceLeDiff, reduceIte, reduceCtorEq, Int.reduceToNat, Int.reduceLE, Int.reduceLT, Int.reduceNe, Int.reduceMul, Int.reduceAdd, Int.reduceSub, Int.reduceDiv, Int.reduceMod, Int.reduceEq, Int.reduceGE, Int.reduceGT, Int.reduceNeg, Int.reduceBEq, Int.reduceBNe, Nat.reduceEqDiff, Tryd.underlying3, Tryd.underlying4, Tryd.underlying9, Tryd.underlying26, Tryd.underlying29, Tryd.underlying37, Tryd.underlying52, Tryd.underlying54]
        rw [show (t : Int) + 1 = ((t + 1 : Nat) : Int) by omega, show (x : Int) + 1 = ((x + 1 : Nat) : Int) by omega, show (y : Int) + 1 = ((y + 1 : Nat) : Int) by omega]
        repeat refine And.intro (by omega) ?_
        refine ainv (hJ (t + 1, x + 1, y + 1, out') ⟨q6, by simp only; omega, k3'⟩ (by simp only; omega)) (Shift.only 1 1 (by simp) (Nat.le_refl _) rfl (by simp) (eds_dry _) (by simp [dry, prs_dry]) ?_)
        simp [wkg, okg, go_sem, Nat.reduceAdd, Nat.reduceMul, Nat.reduceSub, Nat.reduceBEq, Nat.reduceLT, Nat.reduceLeDiff, reduceIte, reduceCtorEq, Int.reduceToNat, Int.reduceLE, Int.reduceLT, Int.reduceNe, Int.reduceMul, Int.reduceAdd, Int.reduceSub, Int.reduceDiv, Int.reduceMod, Int.reduceEq, Int.reduceGE, Int.reduceGT, Int.reduceNeg, Int.reduceBEq, Int.reduceBNe, Nat.reduceEqDiff, Av.frozen]
      · have d2 : decide ((y : Int) > j) = false := by simp; omega
        simp only [go_sem, Nat.reduceAdd, Nat.reduceMul, Nat.reduceSub, Nat.reduceBEq, Nat.reduceLT, Nat.reduceLeDiff, reduceIte, reduceCtorEq, Int.reduceToNat, Int.reduceLE, Int.reduceLT, Int.reduceNe, Int.reduceMul, Int.reduceAdd, Int.reduceSub, Int.reduceDiv, Int.reduceMod, Int.reduceEq, Int.reduceGE, Int.reduceGT, Int.reduceNeg, Int.reduceBEq, Int.reduceBNe, Nat.reduceEqDiff, ht, prs_len, hg, d1, d2, ts3, ts54, za54, Tryd.underlying3, Tryd.underlying4, Tryd.underlying9, Tryd.underlying26, Tryd.underlying29, Tryd.underlying37, Tryd.underlying52, Tryd.underlying54]
        repeat refine And.intro (by omega) ?_
        rw [if_neg (by omega), List.nil_append] at k3
        refine adraw [] mixed (by decide) (N := 65) Tryd.ntmps7 (by decide) 100 ?_
        simp only [go_sem, Nat.reduceAdd, Nat.reduceMul, Nat.reduceSub, Nat.reduceBEq, Nat.reduceLT, Nat.reduceLeDiff, reduceIte, reduceCtorEq, Int.reduceToNat, Int.reduceLE, Int.reduceLT, Int.reduceNe, Int.reduceMul, Int.reduceAdd, Int.reduceSub, Int.reduceDiv, Int.reduceMod, Int.reduceEq, Int.reduceGE, Int.reduceGT, Int.reduceNeg, Int.reduceBEq, Int.reduceBNe, Nat.reduceEqDiff, prs_len, eds_len, hg, ts3, ts54, za54, Tryd.underlying3, Tryd.underlying4, Tryd.underlying9, Tryd.underlying26, Tryd.underlying29, Tryd.underlying37, Tryd.underlying52, Tryd.underlying54]
        repeat refine And.intro (by omega) ?_
        refine go (N := 65) Tryd.ntmps7 200 ?_
        simp only [go_sem, Nat.reduceAdd, Nat.reduceMul, Nat.reduceSub, Nat.reduceBEq, Nat.reduceLT, Nat.reduceLeDiff, reduceIte, reduceCtorEq, Int.reduceToNat, Int.reduceLE, Int.reduceLT, Int.reduceNe, Int.reduceMul, Int.reduceAdd, Int.reduceSub, Int.reduceDiv, Int.reduceMod, Int.reduceEq, Int.reduceGE, Int.reduceGT, Int.reduceNeg, Int.reduceBEq, Int.reduceBNe, Nat.reduceEqDiff, Tryd.underlying3, Tryd.underlying4, Tryd.underlying9, Tryd.underlying26, Tryd.underlying29, Tryd.underlying37, Tryd.underlying52, Tryd.underlying54]
        rw [show (t : Int) + 1 = ((t + 1 : Nat) : Int) by omega, show (x : Int) + 1 = ((x + 1 : Nat) : Int) by omega, show (y : Int) + 1 = ((y + 1 : Nat) : Int) by omega]
        repeat refine And.intro (by omega) ?_
        refine ainv (hJ (t + 1, x + 1, y + 1, out) ⟨q6, by simp only; omega, k3⟩ (by simp only; omega)) (Shift.only 1 1 (by simp) (Nat.le_refl _) rfl (by simp) (eds_dry _) (by simp [dry, prs_dry]) ?_)
        simp [wkg, okg, go_sem, Nat.reduceAdd, Nat.reduceMul, Nat.reduceSub, Nat.reduceBEq, Nat.reduceLT, Nat.reduceLeDiff, reduceIte, reduceCtorEq, Int.reduceToNat, Int.reduceLE, Int.reduceLT, Int.reduceNe, Int.reduceMul, Int.reduceAdd, Int.reduceSub, Int.reduceDiv, Int.reduceMod, Int.reduceEq, Int.reduceGE, Int.reduceGT, Int.reduceNeg, Int.reduceBEq, Int.reduceBNe, Nat.reduceEqDiff, Av.frozen]
    · simp only [go_sem, Nat.reduceAdd, Nat.reduceMul, Nat.reduceSub, Nat.reduceBEq, Nat.reduceLT, Nat.reduceLeDiff, reduceIte, reduceCtorEq, Int.reduceToNat, Int.reduceLE, Int.reduceLT, Int.reduceNe, Int.reduceMul, Int.reduceAdd, Int.reduceSub, Int.reduceDiv, Int.reduceMod, Int.reduceEq, Int.reduceGE, Int.reduceGT, Int.reduceNeg, Int.reduceBEq, Int.reduceBNe, Nat.reduceEqDiff, ht, Tryd.underlying3, Tryd.underlying4, Tryd.underlying9, Tryd.underlying26, Tryd.underlying29, Tryd.underlying37, Tryd.underlying52, Tryd.underlying54]
      have k5 : t = Q.length := by rcases k1 with h | h <;> omega
      subst k5
      rw [List.drop_length] at k3
      have k6 : out = edits a b 0 0 ps := by simpa [edq] using k3
      subst k6
      refine ARet.shift (Shift.freeze 4 (id := 1) rfl rfl (by rw [eds_len]; omega) (Nat.le_refl _) (eds_dry _)) (aret [4, 5] rfl ⟨?_, rfl⟩)
      simp [resV, Av.get, Av.put, eds_len, List.take_of_length_le]
end Go.Proofs.YtpjbbpilgfihbaaDoor
