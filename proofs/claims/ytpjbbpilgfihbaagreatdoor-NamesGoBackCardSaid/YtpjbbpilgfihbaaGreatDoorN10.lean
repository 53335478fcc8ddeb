/- Who speaks, told by the references: the whole. Own work of this seat. -/
import Derived.Test.YtpjbbpilgfihbaaGreatDoorN9
import Derived.Test.YtpjbbpilgfihbaaGreatDoorN8
import Derived.Test.YtpjbbpilgfihbaaGreatDoorN7
set_option maxRecDepth 100000
set_option linter.unusedSimpArgs false
set_option linter.unusedVariables false
namespace Go.Proofs.YtpjbbpilgfihbaaGreatDoor
open Go Go.Av Go.RowKit
attribute [local go_sem ↓] br_true br_false dbr_true dbr_false dbri_true dbri_false dbrg_true dbrg_false
attribute [local go_sem] run cont br dbr dx dxc dgrd dyld dres dcall calm fieldPlace? allHas step1 opN grdN resN condN exitN stopN exitIt dOk xop xbin xint xarith xstr xbool xpick xnot xneg xextract xpart xpartOk xindex xfieldF fieldD xnew xbox xalloc xfieldAddr xptrAddIf xindexAddr xloadC xload putCells reElem xstoreB xstore xconv xtext xlen xlen2 xcall xfill xbuild cut rep xbuildSlice xbuildSliceD isRow elemD isU8 ev evs evp Go.Av.put Go.Av.get ofConst yldD yldV notBool_undef args0 cellsOf cond_true cond_false decide_true decide_false decide_eq_true_eq decide_eq_false_iff_not List.getElem?_cons_zero List.getElem?_cons_succ List.getElem?_nil List.getD_cons_zero List.getD_cons_succ List.getD_nil List.set_cons_zero List.set_cons_succ List.length_cons List.length_nil List.cons_append List.nil_append List.append_nil List.all_cons List.all_nil List.map_cons List.map_nil List.take_succ_cons List.take_zero List.drop_succ_cons List.drop_zero Bool.and_true Bool.true_and Bool.and_self Bool.and_false Bool.false_and one Go.Av.frozen beq_self_eq_true true_and and_true forall_const false_implies implies_true and_self Option.map_some Option.map_none Nat.zero_add Nat.add_zero Nat.zero_mul Nat.mul_one Nat.one_mul Int.toNat_zero ne_eq not_false_eq_true not_true_eq_false Bool.true_eq_false Bool.false_eq_true List.toList_toArray inr Go.Av.byteOf isByte decide_eq_decide Bool.not_true Bool.not_false Bool.not_eq_true' Bool.or_true Bool.true_or Bool.or_false Bool.false_or ge_iff_le gt_iff_lt and_assoc Bool.decide_eq_true beq_iff_eq beq_eq_false_iff_ne bne_iff_ne bne_self_eq_false if_true if_false Bool.and_eq_true Bool.or_eq_true Bool.and_eq_false_imp Bool.or_eq_false_iff Bool.not_eq_false' has Option.isSome_some Option.isSome_none Int.toNat_natCast Int.cast_ofNat_Int List.length_append xapp2 xapp xappS xappD xappB notInt srcOf srcB byteAV splice' xcut xcutS xcutF xcutB xcutN xcut0 cutL loOf hiOf evo xmake zelem xmax xcopy2 xcopyS xcopyB xnil xcut3 ixOf xclear2 xclearB List.getElem?_toArray xbin2 xnileq xempty xmkmap xmput xmputB xmputF isKey keyEq mfind xbin3 xeqs xeqop eqFs bothB leafEq xlook xlookB xlookF xbytes beq_c_n beq_n_c bne_c_n bne_n_c one_nil dxi dxic dbri rix dck reader blind opOk refOk Go.Op.operands Go.Call.operands List.contains_cons List.contains_nil dxg dxgc dbrg pck putD List.lookup_cons List.lookup_nil ts2 tb2 zl2 za2 Tryz.underlying2 ts3 tb3 zl3 za3 Tryz.underlying3 ts4 tb4 zl4 za4 Tryz.underlying4 ts5 tb5 zl5 za5 Tryz.underlying5 ts6 tb6 zl6 za6 Tryz.underlying6 ts7 tb7 za7 Tryz.underlying7 ts8 tb8 za8 Tryz.underlying8 ts9 tb9 zl9 za9 Tryz.underlying9 ts10 tb10 zl10 za10 Tryz.underlying10 ts11 tb11 zl11 za11 Tryz.underlying11 ts12 tb12 zl12 za12 Tryz.underlying12 ts13 tb13 za13 Tryz.underlying13 ts14 tb14 za14 Tryz.underlying14 ts18 tb18 za18 Tryz.underlying18 ts19 tb19 za19 Tryz.underlying19 ts21 tb21 zl21 za21 Tryz.underlying21 ts22 tb22 zl22 za22 Tryz.underlying22 ts24 tb24 za24 Tryz.underlying24 ts25 tb25 za25 Tryz.underlying25 ts27 tb27 zl27 za27 Tryz.underlying27 ts35 tb35 zl35 za35 Tryz.underlying35 ts36 tb36 za36 Tryz.underlying36 ts37 tb37 za37 Tryz.underlying37 ts39 tb39 zl39 za39 Tryz.underlying39 ts41 tb41 za41 Tryz.underlying41 ts42 tb42 za42 Tryz.underlying42 ts63 tb63 zl63 za63 Tryz.underlying63 ts64 tb64 zl64 za64 Tryz.underlying64 ts65 tb65 za65 Tryz.underlying65 ts66 tb66 za66 Tryz.underlying66 ts67 tb67 zl67 za67 Tryz.underlying67 ts69 tb69 za69 Tryz.underlying69 ts70 tb70 za70 Tryz.underlying70 ts73 tb73 za73 Tryz.underlying73 ts74 tb74 za74 Tryz.underlying74 ts75 tb75 zl75 za75 Tryz.underlying75 ts82 tb82 zl82 za82 Tryz.underlying82 ts96 tb96 za96 Tryz.underlying96 ts97 tb97 za97 Tryz.underlying97 ts103 tb103 za103 Tryz.underlying103 ts104 tb104 za104 Tryz.underlying104 ts109 tb109 zl109 za109 Tryz.underlying109 ts116 tb116 zl116 za116 Tryz.underlying116 ts117 tb117 za117 Tryz.underlying117 ts118 tb118 za118 Tryz.underlying118 ts120 tb120 zl120 za120 Tryz.underlying120 ts124 tb124 zl124 za124 Tryz.underlying124 ts126 tb126 za126 Tryz.underlying126 ts128 tb128 zl128 za128 Tryz.underlying128 ts130 tb130 za130 Tryz.underlying130 ts131 tb131 za131 Tryz.underlying131 ts153 tb153 zl153 za153 Tryz.underlying153 ts167 tb167 zl167 za167 Tryz.underlying167 ts171 tb171 zl171 za171 Tryz.underlying171 ts177 tb177 zl177 za177 Tryz.underlying177 ts183 tb183 zl183 za183 Tryz.underlying183 ts189 tb189 zl189 za189 Tryz.underlying189 ts191 tb191 zl191 za191 Tryz.underlying191 ts195 tb195 za195 Tryz.underlying195 ts196 tb196 za196 Tryz.underlying196 ts198 tb198 zl198 za198 Tryz.underlying198 ts203 tb203 Tryz.underlying203 ts209 tb209 za209 Tryz.underlying209 ts210 tb210 za210 Tryz.underlying210 ts211 tb211 Tryz.underlying211 ts216 tb216 za216 Tryz.underlying216 ts217 tb217 za217 Tryz.underlying217 ts220 tb220 Tryz.underlying220 ts225 tb225 Tryz.underlying225 ts226 tb226 Tryz.underlying226 ts227 tb227 za227 Tryz.underlying227 ts228 tb228 za228 Tryz.underlying228 ts232 tb232 zl232 za232 Tryz.underlying232 ts233 tb233 zl233 za233 Tryz.underlying233 ts235 tb235 zl235 za235 Tryz.underlying235 ts236 tb236 zl236 za236 Tryz.underlying236 ts237 tb237 za237 Tryz.underlying237 ts238 tb238 za238 Tryz.underlying238

def cueIn (x : List Sc) (t : List UInt8) : Prop := ∃ y ∈ x, ∃ p ∈ y.paras, p.kind = 2 ∧ p.text = t
structure RoB (xs : List Sc) (c d : Nat) (rs : List Ro) : Prop where
  len : rs.length ≤ c
  all : ∀ r ∈ rs, (0 ≤ r.scenes ∧ r.scenes ≤ c) ∧ (0 ≤ r.speeches ∧ r.speeches ≤ c) ∧ (0 ≤ r.words ∧ r.words ≤ d) ∧ cueIn xs r.name
def MapOk (c : Nat) (es : List (AV × AV)) : Prop := ∀ e ∈ es, ∃ (k : List UInt8) (v : Int), e = (.str k, .int .i64 v) ∧ 0 ≤ v ∧ v ≤ c
theorem MapOk.find {c : Nat} {k : List UInt8} : ∀ {es : List (AV × AV)} {n : Nat}, MapOk c es → mfind .string (.str k) es n = some none ∨ ∃ i v, mfind .string (.str k) es n = some (some (i, .int .i64 v)) ∧ 0 ≤ v ∧ v ≤ c
  | [], n, _ => .inl rfl
  | e :: r, n, h => by
    obtain ⟨k', v, rfl, h1, h2⟩ := h e (by simp)
    by_cases hk : k = k'
    · subst hk
      exact .inr ⟨n, v, by simp [mfind, keyEq], h1, h2⟩
    · have : (k == k') = false := by simpa using hk
      rcases MapOk.find (es := r) (n := n + 1) (fun e he => h e (List.mem_cons_of_mem _ he)) with h' | ⟨i, v, h', h3, h4⟩
      · exact .inl (by simp only [mfind, keyEq, this]; exact h')
      · exact .inr ⟨i, v, by simp only [mfind, keyEq, this]; exact h', h3, h4⟩
theorem MapOk.low {c : Nat} (n : Nat) : ∀ {es : List (AV × AV)}, MapOk c es → lowB n (.mp es) = true := fun {es} h => by
  show es.all _ = true
  rw [List.all_eq_true]
  intro e he
  obtain ⟨k', v, rfl, _, _⟩ := h e he
  rfl
theorem MapOk.set {c d : Nat} {es : List (AV × AV)} (h : MapOk c es) (hd : c ≤ d) (i : Nat) (k : List UInt8) (v : Int) (h1 : 0 ≤ v ∧ v ≤ d) : MapOk d (es.set i (.str k, .int .i64 v)) := fun e he => by
  rcases List.mem_or_eq_of_mem_set he with he | rfl
  · obtain ⟨k', v', rfl, h3, h4⟩ := h e he
    exact ⟨k', v', rfl, h3, by omega⟩
  · exact ⟨k, v, rfl, h1.1, h1.2⟩
theorem MapOk.push {c d : Nat} {es : List (AV × AV)} (h : MapOk c es) (hd : c ≤ d) (k : List UInt8) (v : Int) (h1 : 0 ≤ v ∧ v ≤ d) : MapOk d (es ++ [(.str k, .int .i64 v)]) := fun e he => by
  rcases List.mem_append.1 he with he | he
  · obtain ⟨k', v', rfl, h3, h4⟩ := h e he
    exact ⟨k', v', rfl, h3, by omega⟩
  · rw [List.mem_singleton.1 he]
    exact ⟨k, v, rfl, h1.1, h1.2⟩

theorem low_scq (n : Nat) (x : Sc) : lowB n (.arr 5 [.agg [.str x.no, .int .i64 x.place, .str x.set, .int .i64 x.time, .fz 2 (x.paras.map paA)]]) = true := rfl
set_option maxHeartbeats 8000000 in
theorem castOf_pc (x : Sr) (hx : ScriptOk x) : Pc Tryz.prog 13 [srA x] (fun r => ∃ rs : List Ro, r = .fz 4 (rs.map roA) ∧ rs.length ≤ 1200000 ∧ ∀ ro ∈ rs, cueIn x.scenes ro.name) := by
  have hlen := hx.len
  have hmany := hx.many
  have hok := ok_at _ _ _ hx.ok
  obtain ⟨ti, xs⟩ := x
  simp only at hlen hmany hok
  simp only [srA]
  refine pc_intro (ct_intro Tryz.func13 rfl Tryz.ntmps13 hB13 (by simp) fun h ρ w => goF (N := 103) Tryz.ntmps13 300 ?_)
  simp only [go_sem, Nat.reduceAdd, Nat.reduceMul, Nat.reduceSub, Nat.reduceBEq, Nat.reduceLT, Nat.reduceLeDiff, reduceIte, reduceCtorEq, Int.reduceToNat, Int.reduceLE, Int.reduceLT, Int.reduceNe, Int.reduceMul, Int.reduceAdd, Int.reduceSub, Int.reduceDiv, Int.reduceMod, Int.reduceEq, Int.reduceGE, Int.reduceGT, Int.reduceNeg, Int.reduceBEq, Int.reduceBNe, Nat.reduceEqDiff, List.length_map]
  refine aloop (ι := Nat × List Ro × List (AV × AV)) (fun y => xs.length - y.1)
    (fun y => [(16, .int .i64 y.1), (15, .int .i64 xs.length), (14, .fz 5 (xs.map scA)), (4, .mp 1), (3, .sl 2 0 y.2.1.length y.2.1.length)])
    (fun y => [.arr 2 [.agg [.str ti, .fz 5 (xs.map scA)]], .mp y.2.2, .arr 4 (y.2.1.map roA)])
    (fun y => y.1 ≤ xs.length ∧ RoB xs (y.1 * 4000) (y.1 * 4000 * 4000 * 2001) y.2.1 ∧ MapOk xs.length y.2.2) (0, [], []) ⟨by simp, ⟨by simp, by simp⟩, by simp [MapOk]⟩ ?_ ?_
  · refine Shift.trans (Shift.nilsl 3 4 rfl) (Shift.weak ?_)
    simp only [wk, go_sem, Nat.reduceAdd, Nat.reduceMul, Nat.reduceSub, Nat.reduceBEq, Nat.reduceLT, Nat.reduceLeDiff, reduceIte, reduceCtorEq, Int.reduceToNat, Int.reduceLE, Int.reduceLT, Int.reduceNe, Int.reduceMul, Int.reduceAdd, Int.reduceSub, Int.reduceDiv, Int.reduceMod, Int.reduceEq, Int.reduceGE, Int.reduceGT, Int.reduceNeg, Int.reduceBEq, Int.reduceBNe, Nat.reduceEqDiff]
  · rintro ⟨i, rs, es⟩ ⟨g1, hR, hM⟩ J hJ
    simp only at g1 hR hM hJ ⊢
    by_cases gi : i < xs.length
    · have di : decide ((i : Int) < (xs.length : Int)) = true := by simp; omega
      have hg' : List.getD (List.map scA xs) i .any = .agg [.str xs[i].no, .int .i64 xs[i].place, .str xs[i].set, .int .i64 xs[i].time, .fz 2 (xs[i].paras.map paA)] := by simp [List.getD, gi, scA]
      have hxi := hok _ (List.getElem_mem gi)
      have hgr := groupsOf_pc xs[i] hxi
      have hpl : xs[i].paras.length ≤ 4000 := by
        have := sum_ge xs xs[i] (List.getElem_mem gi)
        omega
      simp only [scA] at hgr
      refine goF (N := 103) Tryz.ntmps13 300 ?_
      simp only [go_sem, Nat.reduceAdd, Nat.reduceMul, Nat.reduceSub, Nat.reduceBEq, Nat.reduceLT, Nat.reduceLeDiff, reduceIte, reduceCtorEq, Int.reduceToNat, Int.reduceLE, Int.reduceLT, Int.reduceNe, Int.reduceMul, Int.reduceAdd, Int.reduceSub, Int.reduceDiv, Int.reduceMod, Int.reduceEq, Int.reduceGE, Int.reduceGT, Int.reduceNeg, Int.reduceBEq, Int.reduceBNe, Nat.reduceEqDiff, di, hg', List.length_map]
      repeat refine And.intro (by first | omega | exact .inl trivial | rfl | (simp; done) | (simp; omega)) ?_
      refine pcall (hgr) rfl (N := 103) Tryz.ntmps13 rfl ?_
      rintro _ ⟨gs, rfl, hG⟩
      refine goF (N := 103) Tryz.ntmps13 300 ?_
      simp only [go_sem, Nat.reduceAdd, Nat.reduceMul, Nat.reduceSub, Nat.reduceBEq, Nat.reduceLT, Nat.reduceLeDiff, reduceIte, reduceCtorEq, Int.reduceToNat, Int.reduceLE, Int.reduceLT, Int.reduceNe, Int.reduceMul, Int.reduceAdd, Int.reduceSub, Int.reduceDiv, Int.reduceMod, Int.reduceEq, Int.reduceGE, Int.reduceGT, Int.reduceNeg, Int.reduceBEq, Int.reduceBNe, Nat.reduceEqDiff, List.length_map]
      refine aloop (ι := Nat × List Ro × List (AV × AV)) (fun y => gs.length - y.1)
        (fun y => [(24, .int .i64 y.1), (23, .int .i64 gs.length), (22, .fz 3 (gs.map gpA)), (6, .ptr 3 1 0 0), (5, .int .i64 i), (16, .int .i64 i), (15, .int .i64 xs.length), (14, .fz 5 (xs.map scA)), (4, .mp 1), (3, .sl 2 0 y.2.1.length y.2.1.length)])
        (fun y => [.arr 2 [.agg [.str ti, .fz 5 (xs.map scA)]], .mp y.2.2, .arr 4 (y.2.1.map roA), .arr 5 [.agg [.str xs[i].no, .int .i64 xs[i].place, .str xs[i].set, .int .i64 xs[i].time, .fz 2 (xs[i].paras.map paA)]]])
        (fun y => y.1 ≤ gs.length ∧ RoB xs (i * 4000 + y.1) ((i * 4000 + y.1) * 4000 * 2001) y.2.1 ∧ MapOk xs.length y.2.2) (0, rs, es) ⟨by simp, by simpa using hR, hM⟩ ?_ ?_
      · refine Shift.weak ?_
        simp only [wk, go_sem, Nat.reduceAdd, Nat.reduceMul, Nat.reduceSub, Nat.reduceBEq, Nat.reduceLT, Nat.reduceLeDiff, reduceIte, reduceCtorEq, Int.reduceToNat, Int.reduceLE, Int.reduceLT, Int.reduceNe, Int.reduceMul, Int.reduceAdd, Int.reduceSub, Int.reduceDiv, Int.reduceMod, Int.reduceEq, Int.reduceGE, Int.reduceGT, Int.reduceNeg, Int.reduceBEq, Int.reduceBNe, Nat.reduceEqDiff]
      · rintro ⟨j, rs, es⟩ ⟨g2, hR, hM⟩ J2 hJ2
        simp only at g2 hR hM hJ2 ⊢
        by_cases gj : j < gs.length
        · have dj : decide ((j : Int) < (gs.length : Int)) = true := by simp; omega
          have hgj : List.getD (List.map gpA gs) j .any = .agg [.int .i64 gs[j].lo, .int .i64 gs[j].hi, .str gs[j].name] := by simp [List.getD, gj, gpA]
          have hGj := hG.all _ (List.getElem_mem gj)
          have hG2 := hG.len
          have hrl := hR.len
          cases hn : gs[j].name == [] with
          | true =>
            refine goF (N := 103) Tryz.ntmps13 300 ?_
            simp only [go_sem, Nat.reduceAdd, Nat.reduceMul, Nat.reduceSub, Nat.reduceBEq, Nat.reduceLT, Nat.reduceLeDiff, reduceIte, reduceCtorEq, Int.reduceToNat, Int.reduceLE, Int.reduceLT, Int.reduceNe, Int.reduceMul, Int.reduceAdd, Int.reduceSub, Int.reduceDiv, Int.reduceMod, Int.reduceEq, Int.reduceGE, Int.reduceGT, Int.reduceNeg, Int.reduceBEq, Int.reduceBNe, Nat.reduceEqDiff, dj, hgj, hn, List.length_map]
            repeat refine And.intro (by first | omega | exact .inl trivial | rfl | (simp; done) | (simp; omega)) ?_
            rw [show (j : Int) + 1 = ((j + 1 : Nat) : Int) by omega]
            refine ainv (hJ2 (j + 1, rs, es) ⟨by simp only; omega, ⟨by simp only; omega, fun r hr => by have := hR.all r hr; simp only; refine ⟨⟨this.1.1, by omega⟩, ⟨this.2.1.1, by omega⟩, ⟨this.2.2.1.1, by omega⟩, this.2.2.2⟩⟩, hM⟩ (by simp only; omega)) (Shift.low 4 (by simp) (by simp) ?_ ?_)
            · simp only [List.take_succ_cons, List.take_zero, List.all_cons, List.all_nil, ↓hM.low 4, ↓low_roles, ↓low_box, low_scq, Bool.and_self]
            · simp only [wkl, lowV, lowC, Av.get, go_sem, Nat.reduceAdd, Nat.reduceMul, Nat.reduceSub, Nat.reduceBEq, Nat.reduceLT, Nat.reduceLeDiff, reduceIte, reduceCtorEq, Int.reduceToNat, Int.reduceLE, Int.reduceLT, Int.reduceNe, Int.reduceMul, Int.reduceAdd, Int.reduceSub, Int.reduceDiv, Int.reduceMod, Int.reduceEq, Int.reduceGE, Int.reduceGT, Int.reduceNeg, Int.reduceBEq, Int.reduceBNe, Nat.reduceEqDiff]
          | false =>
            have hidx := idxRole_ct (.arr 2 [.agg [.str ti, .fz 5 (xs.map scA)]]) (.mp es) (.arr 5 [.agg [.str xs[i].no, .int .i64 xs[i].place, .str xs[i].set, .int .i64 xs[i].time, .fz 2 (xs[i].paras.map paA)]]) (low_box _ _ _) (hM.low 5) (low_scq 5 xs[i]) gs[j] rs (by omega)
            simp only [gpA] at hidx
            have hcue : cueIn xs gs[j].name := by
              rcases hGj.2.2 with h | ⟨p, h1, h2, h3⟩
              · rw [h] at hn; simp at hn
              · exact ⟨xs[i], List.getElem_mem gi, p, h1, h2, h3⟩
            refine goF (N := 103) Tryz.ntmps13 300 ?_
            simp only [go_sem, Nat.reduceAdd, Nat.reduceMul, Nat.reduceSub, Nat.reduceBEq, Nat.reduceLT, Nat.reduceLeDiff, reduceIte, reduceCtorEq, Int.reduceToNat, Int.reduceLE, Int.reduceLT, Int.reduceNe, Int.reduceMul, Int.reduceAdd, Int.reduceSub, Int.reduceDiv, Int.reduceMod, Int.reduceEq, Int.reduceGE, Int.reduceGT, Int.reduceNeg, Int.reduceBEq, Int.reduceBNe, Nat.reduceEqDiff, dj, hgj, hn, List.length_map]
            repeat refine And.intro (by first | omega | exact .inl trivial | rfl | (simp; done) | (simp; omega)) ?_
            refine acall (hidx) (N := 103) Tryz.ntmps13 rfl ?_
            rintro _ _ ⟨⟨k, rfl, hk, hk1⟩, rfl⟩
            refine goF (N := 103) Tryz.ntmps13 4 ?_
            simp only [go_sem, Nat.reduceAdd, Nat.reduceMul, Nat.reduceSub, Nat.reduceBEq, Nat.reduceLT, Nat.reduceLeDiff, reduceIte, reduceCtorEq, Int.reduceToNat, Int.reduceLE, Int.reduceLT, Int.reduceNe, Int.reduceMul, Int.reduceAdd, Int.reduceSub, Int.reduceDiv, Int.reduceMod, Int.reduceEq, Int.reduceGE, Int.reduceGT, Int.reduceNeg, Int.reduceBEq, Int.reduceBNe, Nat.reduceEqDiff]
            refine acut (ι := Nat × List Ro)
              (fun y => [(9, .int .i64 y.1), (8, .ptr 4 1 0 0), (24, .int .i64 j), (23, .int .i64 gs.length), (22, .fz 3 (gs.map gpA)), (6, .ptr 3 1 0 0), (5, .int .i64 i), (16, .int .i64 i), (15, .int .i64 xs.length), (14, .fz 5 (xs.map scA)), (4, .mp 1), (3, .sl 2 0 y.2.length y.2.length)])
              (fun y => [.arr 2 [.agg [.str ti, .fz 5 (xs.map scA)]], .mp es, .arr 4 (y.2.map roA), .arr 5 [.agg [.str xs[i].no, .int .i64 xs[i].place, .str xs[i].set, .int .i64 xs[i].time, .fz 2 (xs[i].paras.map paA)]], .arr 3 [.agg [.int .i64 gs[j].lo, .int .i64 gs[j].hi, .str gs[j].name]]])
              (fun y => y.1 < y.2.length ∧ RoB xs (i * 4000 + j + 1) ((i * 4000 + j) * 4000 * 2001) y.2 ∧ (∀ r ∈ y.2, r.scenes ≤ i * 4000 + j ∧ r.speeches ≤ i * 4000 + j)) ?_ ?_
            · intro Jc hJc
              rcases hk with hk | hk
              · have dk : decide (k < 0) = true := by simpa using hk
                refine goF (N := 103) Tryz.ntmps13 300 ?_
                simp only [go_sem, Nat.reduceAdd, Nat.reduceMul, Nat.reduceSub, Nat.reduceBEq, Nat.reduceLT, Nat.reduceLeDiff, reduceIte, reduceCtorEq, Int.reduceToNat, Int.reduceLE, Int.reduceLT, Int.reduceNe, Int.reduceMul, Int.reduceAdd, Int.reduceSub, Int.reduceDiv, Int.reduceMod, Int.reduceEq, Int.reduceGE, Int.reduceGT, Int.reduceNeg, Int.reduceBEq, Int.reduceBNe, Nat.reduceEqDiff, dk, List.length_map]
                repeat refine And.intro (by first | omega | exact .inl trivial | rfl | (simp; done) | (simp; omega)) ?_
                have hap : List.map roA rs ++ [.agg [.str gs[j].name, .int .i64 0, .int .i64 0, .int .i64 0]] = List.map roA (rs ++ [⟨gs[j].name, 0, 0, 0⟩]) := by simp [roA]
                rw [hap]
                have fin := hJc (rs.length, rs ++ [⟨gs[j].name, 0, 0, 0⟩]) ⟨by simp, ⟨by simp; omega, fun r hr => by
                  rcases List.mem_append.1 hr with hr | hr
                  · have := hR.all r hr
                    refine ⟨⟨this.1.1, by omega⟩, ⟨this.2.1.1, by omega⟩, ⟨this.2.2.1.1, by omega⟩, this.2.2.2⟩
                  · rw [List.mem_singleton.1 hr]
                    refine ⟨⟨by simp, by simp only; omega⟩, ⟨by simp, by simp only; omega⟩, ⟨by simp, by simp only; omega⟩, hcue⟩⟩, fun r hr => by
                  rcases List.mem_append.1 hr with hr | hr
                  · have := hR.all r hr
                    omega
                  · rw [List.mem_singleton.1 hr]
                    simp only; omega⟩
                simp only [List.length_append, List.length_cons, List.length_nil, Nat.zero_add] at fin
                refine ainv fin (Shift.weak ?_)
                simp only [wk, go_sem, Nat.reduceAdd, Nat.reduceMul, Nat.reduceSub, Nat.reduceBEq, Nat.reduceLT, Nat.reduceLeDiff, reduceIte, reduceCtorEq, Int.reduceToNat, Int.reduceLE, Int.reduceLT, Int.reduceNe, Int.reduceMul, Int.reduceAdd, Int.reduceSub, Int.reduceDiv, Int.reduceMod, Int.reduceEq, Int.reduceGE, Int.reduceGT, Int.reduceNeg, Int.reduceBEq, Int.reduceBNe, Nat.reduceEqDiff]
              · have dk : decide (k < 0) = false := by simp; omega
                obtain ⟨kn, rfl⟩ := Int.eq_ofNat_of_zero_le hk.1
                refine goF (N := 103) Tryz.ntmps13 300 ?_
                simp only [go_sem, Nat.reduceAdd, Nat.reduceMul, Nat.reduceSub, Nat.reduceBEq, Nat.reduceLT, Nat.reduceLeDiff, reduceIte, reduceCtorEq, Int.reduceToNat, Int.reduceLE, Int.reduceLT, Int.reduceNe, Int.reduceMul, Int.reduceAdd, Int.reduceSub, Int.reduceDiv, Int.reduceMod, Int.reduceEq, Int.reduceGE, Int.reduceGT, Int.reduceNeg, Int.reduceBEq, Int.reduceBNe, Nat.reduceEqDiff, dk]
                refine ainv (hJc (kn, rs) ⟨by simp only; omega, ⟨by simp only; omega, fun r hr => by
                  have := hR.all r hr
                  refine ⟨⟨this.1.1, by omega⟩, ⟨this.2.1.1, by omega⟩, ⟨this.2.2.1.1, by omega⟩, this.2.2.2⟩⟩, fun r hr => by
                  have := hR.all r hr
                  omega⟩) (Shift.weak ?_)
                simp only [wk, go_sem, Nat.reduceAdd, Nat.reduceMul, Nat.reduceSub, Nat.reduceBEq, Nat.reduceLT, Nat.reduceLeDiff, reduceIte, reduceCtorEq, Int.reduceToNat, Int.reduceLE, Int.reduceLT, Int.reduceNe, Int.reduceMul, Int.reduceAdd, Int.reduceSub, Int.reduceDiv, Int.reduceMod, Int.reduceEq, Int.reduceGE, Int.reduceGT, Int.reduceNeg, Int.reduceBEq, Int.reduceBNe, Nat.reduceEqDiff]
            · rintro ⟨k, rs⟩ ⟨hk, hR, hB⟩
              simp only at hk hR hB ⊢
              have hgk : List.getD (List.map roA rs) k .any = .agg [.str rs[k].name, .int .i64 rs[k].scenes, .int .i64 rs[k].speeches, .int .i64 rs[k].words] := by simp [List.getD, hk, roA]
              have hbk := hB _ (List.getElem_mem hk)
              have hak := hR.all _ (List.getElem_mem hk)
              have hrl2 := hR.len
              have hset : (List.map roA rs).set k (.agg [.str rs[k].name, .int .i64 rs[k].scenes, .int .i64 (rs[k].speeches + 1), .int .i64 rs[k].words]) = List.map roA (rs.set k { rs[k] with speeches := rs[k].speeches + 1 }) := by simp [List.map_set, roA]
              refine goF (N := 103) Tryz.ntmps13 22 ?_
              simp only [go_sem, Nat.reduceAdd, Nat.reduceMul, Nat.reduceSub, Nat.reduceBEq, Nat.reduceLT, Nat.reduceLeDiff, reduceIte, reduceCtorEq, Int.reduceToNat, Int.reduceLE, Int.reduceLT, Int.reduceNe, Int.reduceMul, Int.reduceAdd, Int.reduceSub, Int.reduceDiv, Int.reduceMod, Int.reduceEq, Int.reduceGE, Int.reduceGT, Int.reduceNeg, Int.reduceBEq, Int.reduceBNe, Nat.reduceEqDiff, hgk, List.length_map]
              repeat refine And.intro (by first | omega | exact .inl trivial | rfl | (simp; done) | (simp; omega)) ?_
              rw [hset]
              obtain ⟨rs2, hrs2⟩ : ∃ rs2, rs2 = rs.set k { rs[k] with speeches := rs[k].speeches + 1 } := ⟨_, rfl⟩
              have hl2 : rs2.length = rs.length := by rw [hrs2]; simp
              have hk2 : k < rs2.length := by omega
              have hR2 : RoB xs (i * 4000 + j + 1) ((i * 4000 + j) * 4000 * 2001) rs2 := by
                refine ⟨by omega, fun r hr => ?_⟩
                rw [hrs2] at hr
                rcases List.mem_or_eq_of_mem_set hr with hr | rfl
                · exact hR.all r hr
                · exact ⟨hak.1, ⟨by simp only; omega, by simp only; omega⟩, hak.2.2.1, hak.2.2.2⟩
              have hsc2 : rs2[k].scenes ≤ i * 4000 + j := by
                have : rs2[k].scenes = rs[k].scenes := by simp [hrs2]
                omega
              rw [← hrs2, ← hl2]
              clear hset hgk
              refine acut (ι := List Ro × List (AV × AV))
                (fun y => [(9, .int .i64 k), (8, .ptr 4 1 0 0), (24, .int .i64 j), (23, .int .i64 gs.length), (22, .fz 3 (gs.map gpA)), (6, .ptr 3 1 0 0), (5, .int .i64 i), (16, .int .i64 i), (15, .int .i64 xs.length), (14, .fz 5 (xs.map scA)), (4, .mp 1), (3, .sl 2 0 y.1.length y.1.length)])
                (fun y => [.arr 2 [.agg [.str ti, .fz 5 (xs.map scA)]], .mp y.2, .arr 4 (y.1.map roA), .arr 5 [.agg [.str xs[i].no, .int .i64 xs[i].place, .str xs[i].set, .int .i64 xs[i].time, .fz 2 (xs[i].paras.map paA)]], .arr 3 [.agg [.int .i64 gs[j].lo, .int .i64 gs[j].hi, .str gs[j].name]]])
                (fun y => k < y.1.length ∧ RoB xs (i * 4000 + j + 1) ((i * 4000 + j) * 4000 * 2001) y.1 ∧ MapOk xs.length y.2) ?_ ?_
              · intro Jc hJc
                have hgk2 : List.getD (List.map roA rs2) k .any = .agg [.str rs2[k].name, .int .i64 rs2[k].scenes, .int .i64 rs2[k].speeches, .int .i64 rs2[k].words] := by simp [List.getD, hk2, roA]
                have hak2 := hR2.all _ (List.getElem_mem hk2)
                have hset2 : (List.map roA rs2).set k (.agg [.str rs2[k].name, .int .i64 (rs2[k].scenes + 1), .int .i64 rs2[k].speeches, .int .i64 rs2[k].words]) = List.map roA (rs2.set k { rs2[k] with scenes := rs2[k].scenes + 1 }) := by simp [List.map_set, roA]
                rcases hM.find (k := gs[j].name) (n := 0) with hf | ⟨q, v, hf, hv1, hv2⟩
                · have dv : ((0 : Int) != (i : Int) + 1) = true := by simp; omega
                  refine goF (N := 103) Tryz.ntmps13 300 ?_
                  simp only [go_sem, Nat.reduceAdd, Nat.reduceMul, Nat.reduceSub, Nat.reduceBEq, Nat.reduceLT, Nat.reduceLeDiff, reduceIte, reduceCtorEq, Int.reduceToNat, Int.reduceLE, Int.reduceLT, Int.reduceNe, Int.reduceMul, Int.reduceAdd, Int.reduceSub, Int.reduceDiv, Int.reduceMod, Int.reduceEq, Int.reduceGE, Int.reduceGT, Int.reduceNeg, Int.reduceBEq, Int.reduceBNe, Nat.reduceEqDiff, hf, dv, hgk2, List.length_map]
                  repeat refine And.intro (by first | omega | exact .inl trivial | rfl | (simp; done) | (simp; omega)) ?_
                  rw [hset2]
                  have fin := hJc (rs2.set k { rs2[k] with scenes := rs2[k].scenes + 1 }, es ++ [(.str gs[j].name, .int .i64 ((i : Int) + 1))]) ⟨by simpa using hk2, ⟨by simp; omega, fun r hr => by
                    rcases List.mem_or_eq_of_mem_set hr with hr | rfl
                    · exact hR2.all r hr
                    · have := hR2.all _ (List.getElem_mem hk2)
                      refine ⟨⟨by simp only; omega, by simp only; omega⟩, this.2.1, this.2.2.1, this.2.2.2⟩⟩, hM.push (Nat.le_refl _) _ _ ⟨by omega, by omega⟩⟩
                  simp only [List.length_set] at fin
                  refine ainv fin (Shift.weak ?_)
                  simp only [wk, go_sem, Nat.reduceAdd, Nat.reduceMul, Nat.reduceSub, Nat.reduceBEq, Nat.reduceLT, Nat.reduceLeDiff, reduceIte, reduceCtorEq, Int.reduceToNat, Int.reduceLE, Int.reduceLT, Int.reduceNe, Int.reduceMul, Int.reduceAdd, Int.reduceSub, Int.reduceDiv, Int.reduceMod, Int.reduceEq, Int.reduceGE, Int.reduceGT, Int.reduceNeg, Int.reduceBEq, Int.reduceBNe, Nat.reduceEqDiff]
                · cases dv : v != (i : Int) + 1 with
                  | true =>
                    refine goF (N := 103) Tryz.ntmps13 300 ?_
                    simp only [go_sem, Nat.reduceAdd, Nat.reduceMul, Nat.reduceSub, Nat.reduceBEq, Nat.reduceLT, Nat.reduceLeDiff, reduceIte, reduceCtorEq, Int.reduceToNat, Int.reduceLE, Int.reduceLT, Int.reduceNe, Int.reduceMul, Int.reduceAdd, Int.reduceSub, Int.reduceDiv, Int.reduceMod, Int.reduceEq, Int.reduceGE, Int.reduceGT, Int.reduceNeg, Int.reduceBEq, Int.reduceBNe, Nat.reduceEqDiff, hf, dv, hgk2, List.length_map]
                    repeat refine And.intro (by first | omega | exact .inl trivial | rfl | (simp; done) | (simp; omega)) ?_
                    rw [hset2]
                    have fin := hJc (rs2.set k { rs2[k] with scenes := rs2[k].scenes + 1 }, es.set q (.str gs[j].name, .int .i64 ((i : Int) + 1))) ⟨by simpa using hk2, ⟨by simp; omega, fun r hr => by
                      rcases List.mem_or_eq_of_mem_set hr with hr | rfl
                      · exact hR2.all r hr
                      · have := hR2.all _ (List.getElem_mem hk2)
                        refine ⟨⟨by simp only; omega, by simp only; omega⟩, this.2.1, this.2.2.1, this.2.2.2⟩⟩, hM.set (Nat.le_refl _) _ _ _ ⟨by omega, by omega⟩⟩
                    simp only [List.length_set] at fin
                    refine ainv fin (Shift.weak ?_)
                    simp only [wk, go_sem, Nat.reduceAdd, Nat.reduceMul, Nat.reduceSub, Nat.reduceBEq, Nat.reduceLT, Nat.reduceLeDiff, reduceIte, reduceCtorEq, Int.reduceToNat, Int.reduceLE, Int.reduceLT, Int.reduceNe, Int.reduceMul, Int.reduceAdd, Int.reduceSub, Int.reduceDiv, Int.reduceMod, Int.reduceEq, Int.reduceGE, Int.reduceGT, Int.reduceNeg, Int.reduceBEq, Int.reduceBNe, Nat.reduceEqDiff]
                  | false =>
                    refine goF (N := 103) Tryz.ntmps13 300 ?_
                    simp only [go_sem, Nat.reduceAdd, Nat.reduceMul, Nat.reduceSub, Nat.reduceBEq, Nat.reduceLT, Nat.reduceLeDiff, reduceIte, reduceCtorEq, Int.reduceToNat, Int.reduceLE, Int.reduceLT, Int.reduceNe, Int.reduceMul, Int.reduceAdd, Int.reduceSub, Int.reduceDiv, Int.reduceMod, Int.reduceEq, Int.reduceGE, Int.reduceGT, Int.reduceNeg, Int.reduceBEq, Int.reduceBNe, Nat.reduceEqDiff, hf, dv]
                    repeat refine And.intro (by first | omega | exact .inl trivial | rfl | (simp; done) | (simp; omega)) ?_
                    refine ainv (hJc (rs2, es) ⟨hk2, hR2, hM⟩) (Shift.weak ?_)
                    simp only [wk, go_sem, Nat.reduceAdd, Nat.reduceMul, Nat.reduceSub, Nat.reduceBEq, Nat.reduceLT, Nat.reduceLeDiff, reduceIte, reduceCtorEq, Int.reduceToNat, Int.reduceLE, Int.reduceLT, Int.reduceNe, Int.reduceMul, Int.reduceAdd, Int.reduceSub, Int.reduceDiv, Int.reduceMod, Int.reduceEq, Int.reduceGE, Int.reduceGT, Int.reduceNeg, Int.reduceBEq, Int.reduceBNe, Nat.reduceEqDiff]
              · rintro ⟨rs, es⟩ ⟨hk, hR, hM⟩
                simp only at hk hR hM ⊢
                obtain ⟨ps, hps⟩ : ∃ ps, ps = (xs[i].paras.take gs[j].hi).drop gs[j].lo := ⟨_, rfl⟩
                have hpsl : ps.length ≤ 4000 := by rw [hps]; simp; omega
                have hpm : ∀ p ∈ ps, p.text.length ≤ 2000 := fun p hp => by
                  rw [hps] at hp
                  obtain ⟨e, he, _⟩ := hxi.run
                  exact para_len (run_all _ _ _ he p (List.mem_of_mem_take (List.mem_of_mem_drop hp)))
                have hrl3 := hR.len
                refine goF (N := 103) Tryz.ntmps13 300 ?_
                simp only [go_sem, Nat.reduceAdd, Nat.reduceMul, Nat.reduceSub, Nat.reduceBEq, Nat.reduceLT, Nat.reduceLeDiff, reduceIte, reduceCtorEq, Int.reduceToNat, Int.reduceLE, Int.reduceLT, Int.reduceNe, Int.reduceMul, Int.reduceAdd, Int.reduceSub, Int.reduceDiv, Int.reduceMod, Int.reduceEq, Int.reduceGE, Int.reduceGT, Int.reduceNeg, Int.reduceBEq, Int.reduceBNe, Nat.reduceEqDiff, List.length_map]
                repeat refine And.intro (by first | omega | exact .inl trivial | rfl | (simp; done) | (simp; omega)) ?_
                rw [← List.map_take, ← List.map_drop, ← hps]
                refine aloop (ι := Nat × List Ro) (fun y => ps.length - y.1)
                  (fun y => [(80, .int .i64 y.1), (79, .int .i64 ps.length), (78, .fz 2 (ps.map paA)), (9, .int .i64 k), (8, .ptr 4 1 0 0), (24, .int .i64 j), (23, .int .i64 gs.length), (22, .fz 3 (gs.map gpA)), (6, .ptr 3 1 0 0), (5, .int .i64 i), (16, .int .i64 i), (15, .int .i64 xs.length), (14, .fz 5 (xs.map scA)), (4, .mp 1), (3, .sl 2 0 y.2.length y.2.length)])
                  (fun y => [.arr 2 [.agg [.str ti, .fz 5 (xs.map scA)]], .mp es, .arr 4 (y.2.map roA), .arr 5 [.agg [.str xs[i].no, .int .i64 xs[i].place, .str xs[i].set, .int .i64 xs[i].time, .fz 2 (xs[i].paras.map paA)]], .arr 3 [.agg [.int .i64 gs[j].lo, .int .i64 gs[j].hi, .str gs[j].name]]])
                  (fun y => y.1 ≤ ps.length ∧ k < y.2.length ∧ RoB xs (i * 4000 + j + 1) ((i * 4000 + j) * 4000 * 2001 + y.1 * 2001) y.2) (0, rs) ⟨by simp, hk, by simpa using hR⟩ ?_ ?_
                · refine Shift.weakS ?_ rfl
                  simp only [wk, List.length_map, go_sem, Nat.reduceAdd, Nat.reduceMul, Nat.reduceSub, Nat.reduceBEq, Nat.reduceLT, Nat.reduceLeDiff, reduceIte, reduceCtorEq, Int.reduceToNat, Int.reduceLE, Int.reduceLT, Int.reduceNe, Int.reduceMul, Int.reduceAdd, Int.reduceSub, Int.reduceDiv, Int.reduceMod, Int.reduceEq, Int.reduceGE, Int.reduceGT, Int.reduceNeg, Int.reduceBEq, Int.reduceBNe, Nat.reduceEqDiff]
                · rintro ⟨q, rs⟩ ⟨g3, hk, hR⟩ J3 hJ3
                  simp only at g3 hk hR hJ3 ⊢
                  have hlow : ∀ l : List Ro, ([.arr 2 [.agg [.str ti, .fz 5 (xs.map scA)]], .mp es, .arr 4 (l.map roA), .arr 5 [.agg [.str xs[i].no, .int .i64 xs[i].place, .str xs[i].set, .int .i64 xs[i].time, .fz 2 (xs[i].paras.map paA)]], .arr 3 [.agg [.int .i64 gs[j].lo, .int .i64 gs[j].hi, .str gs[j].name]]] : List Blk).all (lowB 5) = true := fun l => by
                    have h1 := low_gps 5 [gs[j]]
                    simp only [List.map_cons, List.map_nil, gpA] at h1
                    simp only [List.all_cons, List.all_nil, ↓hM.low 5, ↓low_roles, ↓low_box, low_scq, h1, Bool.and_self]
                  by_cases gq : q < ps.length
                  · have dq : decide ((q : Int) < (ps.length : Int)) = true := by simp; omega
                    have hpA : List.getD (List.map paA ps) q .any = .agg [.int .i64 ps[q].kind, .str ps[q].text] := by simp [List.getD, gq, paA]
                    have hpt := hpm _ (List.getElem_mem gq)
                    have hwl := wo_len ps[q].text [] []
                    simp only [List.length_nil, Nat.zero_add] at hwl
                    have hwl' : (woL ps[q].text).length ≤ 2001 := by show (wo [] [] ps[q].text).length ≤ 2001; omega
                    have hgk : List.getD (List.map roA rs) k .any = .agg [.str rs[k].name, .int .i64 rs[k].scenes, .int .i64 rs[k].speeches, .int .i64 rs[k].words] := by simp [List.getD, hk, roA]
                    have hak := hR.all _ (List.getElem_mem hk)
                    have hrl4 := hR.len
                    cases k4 : ps[q].kind == 4 with
                    | true =>
                      refine goF (N := 103) Tryz.ntmps13 300 ?_
                      simp only [go_sem, Nat.reduceAdd, Nat.reduceMul, Nat.reduceSub, Nat.reduceBEq, Nat.reduceLT, Nat.reduceLeDiff, reduceIte, reduceCtorEq, Int.reduceToNat, Int.reduceLE, Int.reduceLT, Int.reduceNe, Int.reduceMul, Int.reduceAdd, Int.reduceSub, Int.reduceDiv, Int.reduceMod, Int.reduceEq, Int.reduceGE, Int.reduceGT, Int.reduceNeg, Int.reduceBEq, Int.reduceBNe, Nat.reduceEqDiff, dq, hpA, k4, List.length_map]
                      repeat refine And.intro (by first | omega | exact .inl trivial | rfl | (simp; done) | (simp; omega)) ?_
                      refine adraw [.fz 1 ((woL ps[q].text).map .str)] mixed (by decide) (N := 103) Tryz.ntmps13 (by decide) 100 ?_
                      simp only [go_sem, Nat.reduceAdd, Nat.reduceMul, Nat.reduceSub, Nat.reduceBEq, Nat.reduceLT, Nat.reduceLeDiff, reduceIte, reduceCtorEq, Int.reduceToNat, Int.reduceLE, Int.reduceLT, Int.reduceNe, Int.reduceMul, Int.reduceAdd, Int.reduceSub, Int.reduceDiv, Int.reduceMod, Int.reduceEq, Int.reduceGE, Int.reduceGT, Int.reduceNeg, Int.reduceBEq, Int.reduceBNe, Nat.reduceEqDiff, List.length_map, hgk]
                      repeat refine And.intro (by first | omega | exact (wordsOf_pc ps[q].text (by omega)).at | rfl | exact .inl trivial | (simp; done) | (simp; omega)) ?_
                      have hset : (List.map roA rs).set k (.agg [.str rs[k].name, .int .i64 rs[k].scenes, .int .i64 rs[k].speeches, .int .i64 (rs[k].words + (woL ps[q].text).length)]) = List.map roA (rs.set k { rs[k] with words := rs[k].words + (woL ps[q].text).length }) := by simp [List.map_set, roA]
                      rw [hset]
                      refine goF (N := 103) Tryz.ntmps13 300 ?_
                      simp only [go_sem, Nat.reduceAdd, Nat.reduceMul, Nat.reduceSub, Nat.reduceBEq, Nat.reduceLT, Nat.reduceLeDiff, reduceIte, reduceCtorEq, Int.reduceToNat, Int.reduceLE, Int.reduceLT, Int.reduceNe, Int.reduceMul, Int.reduceAdd, Int.reduceSub, Int.reduceDiv, Int.reduceMod, Int.reduceEq, Int.reduceGE, Int.reduceGT, Int.reduceNeg, Int.reduceBEq, Int.reduceBNe, Nat.reduceEqDiff]
                      repeat refine And.intro (by first | omega | exact .inl trivial | rfl | (simp; done) | (simp; omega)) ?_
                      rw [show (q : Int) + 1 = ((q + 1 : Nat) : Int) by omega]
                      have fin := hJ3 (q + 1, rs.set k { rs[k] with words := rs[k].words + (woL ps[q].text).length }) ⟨by simp only; omega, by simpa using hk, ⟨by simp; omega, fun r hr => by
                        rcases List.mem_or_eq_of_mem_set hr with hr | rfl
                        · have := hR.all r hr
                          exact ⟨this.1, this.2.1, ⟨this.2.2.1.1, by simp only; omega⟩, this.2.2.2⟩
                        · exact ⟨hak.1, hak.2.1, ⟨by simp only; omega, by simp only; omega⟩, hak.2.2.2⟩⟩⟩ (by simp only; omega)
                      simp only [List.length_set] at fin
                      refine ainv fin (Shift.low 5 (by simp) (by simp) ?_ ?_)
                      · exact hlow _
                      · simp only [wkl, lowV, lowC, Av.get, go_sem, Nat.reduceAdd, Nat.reduceMul, Nat.reduceSub, Nat.reduceBEq, Nat.reduceLT, Nat.reduceLeDiff, reduceIte, reduceCtorEq, Int.reduceToNat, Int.reduceLE, Int.reduceLT, Int.reduceNe, Int.reduceMul, Int.reduceAdd, Int.reduceSub, Int.reduceDiv, Int.reduceMod, Int.reduceEq, Int.reduceGE, Int.reduceGT, Int.reduceNeg, Int.reduceBEq, Int.reduceBNe, Nat.reduceEqDiff]
                    | false =>
                      refine goF (N := 103) Tryz.ntmps13 300 ?_
                      simp only [go_sem, Nat.reduceAdd, Nat.reduceMul, Nat.reduceSub, Nat.reduceBEq, Nat.reduceLT, Nat.reduceLeDiff, reduceIte, reduceCtorEq, Int.reduceToNat, Int.reduceLE, Int.reduceLT, Int.reduceNe, Int.reduceMul, Int.reduceAdd, Int.reduceSub, Int.reduceDiv, Int.reduceMod, Int.reduceEq, Int.reduceGE, Int.reduceGT, Int.reduceNeg, Int.reduceBEq, Int.reduceBNe, Nat.reduceEqDiff, dq, hpA, k4, List.length_map]
                      repeat refine And.intro (by first | omega | exact .inl trivial | rfl | (simp; done) | (simp; omega)) ?_
                      rw [show (q : Int) + 1 = ((q + 1 : Nat) : Int) by omega]
                      refine ainv (hJ3 (q + 1, rs) ⟨by simp only; omega, hk, ⟨hR.len, fun r hr => by
                        have := hR.all r hr
                        exact ⟨this.1, this.2.1, ⟨this.2.2.1.1, by simp only; omega⟩, this.2.2.2⟩⟩⟩ (by simp only; omega)) (Shift.low 5 (by simp) (by simp) ?_ ?_)
                      · exact hlow _
                      · simp only [wkl, lowV, lowC, Av.get, go_sem, Nat.reduceAdd, Nat.reduceMul, Nat.reduceSub, Nat.reduceBEq, Nat.reduceLT, Nat.reduceLeDiff, reduceIte, reduceCtorEq, Int.reduceToNat, Int.reduceLE, Int.reduceLT, Int.reduceNe, Int.reduceMul, Int.reduceAdd, Int.reduceSub, Int.reduceDiv, Int.reduceMod, Int.reduceEq, Int.reduceGE, Int.reduceGT, Int.reduceNeg, Int.reduceBEq, Int.reduceBNe, Nat.reduceEqDiff]
                  · have dq : decide ((q : Int) < (ps.length : Int)) = false := by simp; omega
                    refine goF (N := 103) Tryz.ntmps13 300 ?_
                    simp only [go_sem, Nat.reduceAdd, Nat.reduceMul, Nat.reduceSub, Nat.reduceBEq, Nat.reduceLT, Nat.reduceLeDiff, reduceIte, reduceCtorEq, Int.reduceToNat, Int.reduceLE, Int.reduceLT, Int.reduceNe, Int.reduceMul, Int.reduceAdd, Int.reduceSub, Int.reduceDiv, Int.reduceMod, Int.reduceEq, Int.reduceGE, Int.reduceGT, Int.reduceNeg, Int.reduceBEq, Int.reduceBNe, Nat.reduceEqDiff, dq]
                    repeat refine And.intro (by first | omega | exact .inl trivial | rfl | (simp; done) | (simp; omega)) ?_
                    rw [show (j : Int) + 1 = ((j + 1 : Nat) : Int) by omega]
                    refine ainv (hJ2 (j + 1, rs, es) ⟨by simp only; omega, ⟨by have := hR.len; simp only; omega, fun r hr => by
                      have := hR.all r hr
                      simp only
                      refine ⟨⟨this.1.1, by omega⟩, ⟨this.2.1.1, by omega⟩, ⟨this.2.2.1.1, by omega⟩, this.2.2.2⟩⟩, hM⟩ (by simp only; omega)) (Shift.low 4 (by simp) (by simp) ?_ ?_)
                    · simp only [List.take_succ_cons, List.take_zero, List.all_cons, List.all_nil, ↓hM.low 4, ↓low_roles, ↓low_box, low_scq, Bool.and_self]
                    · simp only [wkl, lowV, lowC, Av.get, go_sem, Nat.reduceAdd, Nat.reduceMul, Nat.reduceSub, Nat.reduceBEq, Nat.reduceLT, Nat.reduceLeDiff, reduceIte, reduceCtorEq, Int.reduceToNat, Int.reduceLE, Int.reduceLT, Int.reduceNe, Int.reduceMul, Int.reduceAdd, Int.reduceSub, Int.reduceDiv, Int.reduceMod, Int.reduceEq, Int.reduceGE, Int.reduceGT, Int.reduceNeg, Int.reduceBEq, Int.reduceBNe, Nat.reduceEqDiff]
        · have dj : decide ((j : Int) < (gs.length : Int)) = false := by simp; omega
          have := hG.len
          refine goF (N := 103) Tryz.ntmps13 300 ?_
          simp only [go_sem, Nat.reduceAdd, Nat.reduceMul, Nat.reduceSub, Nat.reduceBEq, Nat.reduceLT, Nat.reduceLeDiff, reduceIte, reduceCtorEq, Int.reduceToNat, Int.reduceLE, Int.reduceLT, Int.reduceNe, Int.reduceMul, Int.reduceAdd, Int.reduceSub, Int.reduceDiv, Int.reduceMod, Int.reduceEq, Int.reduceGE, Int.reduceGT, Int.reduceNeg, Int.reduceBEq, Int.reduceBNe, Nat.reduceEqDiff, dj]
          repeat refine And.intro (by first | omega | exact .inl trivial | rfl | (simp; done) | (simp; omega)) ?_
          rw [show (i : Int) + 1 = ((i + 1 : Nat) : Int) by omega]
          refine ainv (hJ (i + 1, rs, es) ⟨by simp only; omega, ⟨by have := hR.len; simp only; omega, fun r hr => by have := hR.all r hr; simp only; refine ⟨⟨this.1.1, by omega⟩, ⟨this.2.1.1, by omega⟩, ⟨this.2.2.1.1, by omega⟩, this.2.2.2⟩⟩, hM⟩ (by simp only; omega)) (Shift.low 3 (by simp) (by simp) ?_ ?_)
          · simp only [List.take_succ_cons, List.take_zero, List.all_cons, List.all_nil, ↓hM.low 3, ↓low_roles, ↓low_box, Bool.and_self]
          · simp only [wkl, lowV, lowC, Av.get, go_sem, Nat.reduceAdd, Nat.reduceMul, Nat.reduceSub, Nat.reduceBEq, Nat.reduceLT, Nat.reduceLeDiff, reduceIte, reduceCtorEq, Int.reduceToNat, Int.reduceLE, Int.reduceLT, Int.reduceNe, Int.reduceMul, Int.reduceAdd, Int.reduceSub, Int.reduceDiv, Int.reduceMod, Int.reduceEq, Int.reduceGE, Int.reduceGT, Int.reduceNeg, Int.reduceBEq, Int.reduceBNe, Nat.reduceEqDiff]
    · have di : decide ((i : Int) < (xs.length : Int)) = false := by simp; omega
      refine goF (N := 103) Tryz.ntmps13 300 ?_
      simp only [go_sem, Nat.reduceAdd, Nat.reduceMul, Nat.reduceSub, Nat.reduceBEq, Nat.reduceLT, Nat.reduceLeDiff, reduceIte, reduceCtorEq, Int.reduceToNat, Int.reduceLE, Int.reduceLT, Int.reduceNe, Int.reduceMul, Int.reduceAdd, Int.reduceSub, Int.reduceDiv, Int.reduceMod, Int.reduceEq, Int.reduceGE, Int.reduceGT, Int.reduceNeg, Int.reduceBEq, Int.reduceBNe, Nat.reduceEqDiff, di]
      exact ARet.shift (Shift.freeze 2 (id := 2) rfl rfl (by simp) (Nat.le_refl _) (frozen_roles _)) (aret [2] rfl ⟨⟨rs, by simp only [resV, Av.get, put, go_sem, Nat.reduceAdd, Nat.reduceMul, Nat.reduceSub, Nat.reduceBEq, Nat.reduceLT, Nat.reduceLeDiff, reduceIte, reduceCtorEq, Int.reduceToNat, Int.reduceLE, Int.reduceLT, Int.reduceNe, Int.reduceMul, Int.reduceAdd, Int.reduceSub, Int.reduceDiv, Int.reduceMod, Int.reduceEq, Int.reduceGE, Int.reduceGT, Int.reduceNeg, Int.reduceBEq, Int.reduceBNe, Nat.reduceEqDiff]; simp [List.take_of_length_le], by have := hR.len; omega, fun r hr => (hR.all r hr).2.2.2⟩, rfl⟩)
end Go.Proofs.YtpjbbpilgfihbaaGreatDoor
/- A script in which somebody has another name: plain law. Own work of this seat. -/
set_option maxRecDepth 100000
set_option linter.unusedSimpArgs false
set_option linter.unusedVariables false
namespace Go.Proofs.YtpjbbpilgfihbaaGreatDoor
open Go Go.Av Go.RowKit

def renP (fr tu : List UInt8) (p : Pa) : Pa := ⟨p.kind, bif p.kind == 2 then (bif p.text == fr then tu else p.text) else replL p.text fr tu⟩
def renS (fr tu : List UInt8) (x : Sc) : Sc := ⟨x.no, x.place, x.set, x.time, x.paras.map (renP fr tu)⟩
def renR (fr tu : List UInt8) (x : Sr) : Sr := ⟨x.title, x.scenes.map (renS fr tu)⟩
def parasOf (xs : List Sc) : List Pa := xs.flatMap fun x => x.paras
def bigP (p : Pa) : Bool := decide ((p.text.length : Int) > 2000) || (p.kind == 3 && decide ((p.text.length : Int) > 200))
def formP (p : Pa) : Bool := p.kind == 5 && !isTurnL p.text
def chgP (fr tu : List UInt8) (p : Pa) : Bool := (renP fr tu p).text != p.text
def manyL (fr tu : List UInt8) (ps : List Pa) : Nat := ps.countP (chgP fr tu)
def bigL (fr tu : List UInt8) (ps : List Pa) : Bool := ps.any fun p => bigP (renP fr tu p)
def formL (fr tu : List UInt8) (ps : List Pa) : Bool := ps.any fun p => formP (renP fr tu p)

def nameB (t : List UInt8) : Bool := t.head?.any partB && (t.all (fun c => c != 86) && (nameL t && (decide (t.length ≤ 30) && (t != [] && t != EVE))))
theorem nameB_all : NameL.all nameB = true := by decide +kernel
structure NameOk (t : List UInt8) : Prop where
  head : t.head?.any partB = true
  noV : ∀ c ∈ t, c ≠ 86
  name : nameL t = true
  len : t.length ≤ 30
  ne : t ≠ []
  eve : t ≠ EVE
theorem name_ok {t : List UInt8} (h : t ∈ NameL) : NameOk t := by
  have := List.all_eq_true.1 nameB_all t h
  simp only [nameB, Bool.and_eq_true, decide_eq_true_eq, bne_iff_ne, ne_eq] at this
  obtain ⟨h1, h2, h3, h4, h5, h6⟩ := this
  exact ⟨h1, fun c hc => by simpa using List.all_eq_true.1 h2 c hc, h3, h4, h5, h6⟩
theorem eve_name : nameL EVE = true := by decide +kernel
theorem text_noV {t : List UInt8} (h : TextOk textC t) : ∀ c ∈ t, c ≠ 86 := fun c hc => by
  have := List.all_eq_true.1 h.all c hc
  simp only [textC, Bool.and_eq_true, bne_iff_ne, ne_eq] at this
  exact this.2
theorem text_ne_eve {t : List UInt8} (h : TextOk textC t) : t ≠ EVE := fun e => by
  rw [e] at h
  exact text_noV h 86 (by simp [EVE]) rfl

theorem ren_back {fr : List UInt8} (hf : NameOk fr) {p : Pa} (h : DrawnP p) : renP EVE fr (renP fr EVE p) = p := by
  obtain ⟨k, t⟩ := p
  have ht := h.text
  simp only at ht
  unfold renP
  cases hk : k == 2 with
  | true =>
    have hk' : k = 2 := by simpa using hk
    subst hk'
    cases he : t == fr with
    | true =>
      have : t = fr := by simpa using he
      simp [he, this]
    | false =>
      have h2 : (t == EVE) = false := by simpa using text_ne_eve ht
      simp [he, h2]
  | false =>
    simp only [hk, cond_false]
    have := repl_back fr hf.head t.length t (Nat.le_refl _) (text_noV ht) false false (.inl rfl)
    unfold replL
    rw [this]

theorem any_none {s cs : List UInt8} (h : ∀ c ∈ s, cs.contains c = false) : Lib.containsAny s cs = false := by
  have : Lib.NoAny s cs s.length := fun j b _ hj => h b (List.mem_of_getElem? hj)
  simp [Lib.containsAny, Lib.indexAny_none this]
theorem any_none' (cs : List UInt8) : ∀ (s : List UInt8), Lib.containsAny s cs = false → ∀ c ∈ s, cs.contains c = false
  | [], _, c, hc => by simp at hc
  | a :: r, h, c, hc => by
    have ge := Lib.indexAny_ge cs r
    have hd : ¬ (0 ≤ Lib.indexAny (a :: r) cs) := of_decide_eq_false h
    rw [Lib.indexAny] at hd
    cases ha : cs.contains a with
    | true => rw [ha] at hd; simp at hd
    | false =>
      rw [ha] at hd
      have hr : Lib.containsAny r cs = false := decide_eq_false fun h0 => by
        simp only [Bool.false_eq_true, if_false, beq_iff_eq] at hd
        split at hd
        · omega
        · omega
      rcases List.mem_cons.1 hc with rfl | hc
      · exact ha
      · exact any_none' cs r hr c hc

def textV (c : UInt8) : Bool := textC c || c == 86
theorem textV_ok : ∀ c, textV c = true → okB c = true := fun c h => by
  unfold textV at h
  rcases Bool.or_eq_true_iff.1 h with h | h
  · exact textC_ok c h
  · have : c = 86 := by simpa using h
    rw [this]; decide
theorem textC_V : ∀ c, textC c = true → textV c = true := fun c h => by simp [textV, h]

theorem ren_ok {fr : List UInt8} (hf : NameOk fr) {p : Pa} (h : DrawnP p) (hb : bigP (renP fr EVE p) = false) (hfm : formP (renP fr EVE p) = false) : paraOk (renP fr EVE p) = true := by
  have hp := h.ok
  have hkk := h.kind
  obtain ⟨k, t⟩ := p
  have ht := h.text
  simp only at ht hkk
  simp only [paraOk, Bool.and_eq_true, decide_eq_true_eq, bne_iff_ne, ne_eq, Bool.or_eq_true, Bool.not_eq_true'] at hp
  obtain ⟨h1, h2, h3, h4, h5, h6, h7, h8⟩ := hp
  unfold renP at hb hfm ⊢
  cases hk : k == 2 with
  | true =>
    have hk' : k = 2 := by simpa using hk
    subst hk'
    have e2 : plainL EVE = true := by decide +kernel
    cases he : t == fr with
    | true =>
      have : paraOk ⟨2, EVE⟩ = true := by simp only [paraOk, eve_name, e2]; decide
      simpa only [he, cond_true, beq_self_eq_true] using this
    | false =>
      simp only [he, cond_true, cond_false, beq_self_eq_true]
      exact h.ok
  | false =>
    have hr : TextOk textV (replL t fr EVE) := repl_text (by decide) (by decide) hf.head (ht.weak textC_V)
    have hpl := plain_of textV_ok hr
    have hk2 : k ≠ 2 := by simpa using hk
    simp only [hk, cond_false, bigP, formP, Bool.or_eq_false_iff, decide_eq_false_iff_not] at hb hfm ⊢
    have hl : (replL t fr EVE).length ≤ 2000 := by omega
    simp only [paraOk, Bool.and_eq_true, decide_eq_true_eq, bne_iff_ne, ne_eq, Bool.or_eq_true, Bool.not_eq_true']
    refine ⟨hkk.1, hkk.2, hr.ne, hpl, hl, .inl hk2, ?_, ?_⟩
    · by_cases h3k : k = 3
      · right
        subst h3k
        refine ⟨by have := hb.2; simp at this; omega, any_none fun c hc => ?_⟩
        rcases h7 with h7 | h7
        · exact (h7 rfl).elim
        rcases replK_mem fr EVE t false 0 c hc with hc | hc
        · exact any_none' _ _ h7.2 c hc
        · simp [EVE] at hc
          rcases hc with rfl | rfl | rfl <;> rfl
      · exact .inl h3k
    · by_cases h5k : k = 5
      · right
        subst h5k
        simpa using hfm
      · exact .inl h5k

theorem run_ren {f : Pa → Pa} (hk : ∀ p, (f p).kind = p.kind) : ∀ (ps : List Pa) (l e : Int), runL l ps = some e → (∀ p ∈ ps, paraOk (f p) = true) → runL l (ps.map f) = some e
  | [], l, e, h, _ => h
  | p :: r, l, e, h, ho => by
    simp only [runL] at h
    split at h
    · rename_i hc
      simp only [Bool.and_eq_true] at hc
      have hr := run_ren hk r p.kind e h (fun q hq => ho q (List.mem_cons_of_mem _ hq))
      simp only [List.map_cons, runL, hk, ho p (by simp), hc.2, Bool.and_self, if_true, hr]
    · cases h
theorem okFrom_map {f : Sc → Sc} (h1 : ∀ x, (f x).no = x.no ∧ (f x).place = x.place ∧ (f x).time = x.time) : ∀ (xs : List Sc) (acc : List (List UInt8)) (b : Bool), okFrom acc b xs → (∀ x ∈ xs, SceneOk x → SceneOk (f x)) → okFrom acc b (xs.map f)
  | [], _, _, _, _ => trivial
  | x :: r, acc, b, h, hs => by
    obtain ⟨a1, a2, a3, a4, a5, a6⟩ := h
    obtain ⟨e1, e2, e3⟩ := h1 x
    simp only [List.map_cons]
    refine ⟨by rw [e1]; exact a1, by rw [e2]; exact a2, by rw [e3]; exact a3, by rw [e3]; exact a4, hs x (by simp) a5, ?_⟩
    rw [e1]
    exact okFrom_map h1 r _ _ a6 (fun y hy => hs y (List.mem_cons_of_mem _ hy))
theorem sum_map {f : Sc → Sc} (h : ∀ x, (f x).paras.length = x.paras.length) (xs : List Sc) : paraSum (xs.map f) = paraSum xs := by
  simp only [paraSum, List.map_map]
  congr 1
  exact List.map_congr_left fun x _ => h x

/-- all that is drawn -/
def AllDrawn (x : Sr) : Prop := ∀ p ∈ parasOf x.scenes, DrawnP p
theorem paras_num : ∀ (i : Nat) (l : List Sc), parasOf (numL i l) = parasOf l
  | _, [] => rfl
  | i, x :: r => by
    have := paras_num (i + 1) r
    simp only [parasOf, numL, List.flatMap_cons, nm] at this ⊢
    rw [this]
theorem all_drawn {x : Sr} (h : DrawnA x) : AllDrawn x := by
  obtain ⟨y, hy, hx⟩ := h
  have : AllDrawn y := fun p hp => by
    obtain ⟨z, hz, hp⟩ := List.mem_flatMap.1 hp
    exact (hy.all z hz).all p hp
  rcases hx with rfl | rfl
  · exact this
  · intro p hp
    exact this p (by simpa only [numR, paras_num] using hp)

theorem mem_paras {xs : List Sc} {y : Sc} {p : Pa} (hy : y ∈ xs) (hp : p ∈ y.paras) : p ∈ parasOf xs := List.mem_flatMap.2 ⟨y, hy, hp⟩
theorem script_ren {x : Sr} (hx : ScriptOk x) (hd : AllDrawn x) {fr : List UInt8} (hf : NameOk fr) (hb : bigL fr EVE (parasOf x.scenes) = false) (hfm : formL fr EVE (parasOf x.scenes) = false) : ScriptOk (renR fr EVE x) := by
  unfold bigL at hb
  unfold formL at hfm
  rw [List.any_eq_false] at hb hfm
  refine ⟨hx.title, hx.plain, by simpa [renR] using hx.len, ?_, okFrom_map (f := renS fr EVE) (fun _ => ⟨rfl, rfl, rfl⟩) _ _ _ hx.ok fun y hy hs => ⟨hs.set, hs.len, by simpa [renS] using hs.many, ?_⟩⟩
  · have := hx.many
    simp only [renR]
    rw [sum_map (fun y => by simp [renS])]
    exact this
  · obtain ⟨e, h1, h2, h3⟩ := hs.run
    exact ⟨e, run_ren (f := renP fr EVE) (fun _ => rfl) _ _ _ h1 (fun p hp => ren_ok hf (hd p (mem_paras hy hp)) (by simpa using hb p (mem_paras hy hp)) (by simpa using hfm p (mem_paras hy hp))), h2, h3⟩
theorem script_back {x : Sr} (hd : AllDrawn x) {fr : List UInt8} (hf : NameOk fr) : renR EVE fr (renR fr EVE x) = x := by
  obtain ⟨ti, xs⟩ := x
  simp only [renR, List.map_map, Sr.mk.injEq, true_and]
  have : ∀ y ∈ xs, (renS EVE fr ∘ renS fr EVE) y = y := fun y hy => by
    obtain ⟨no, pl, st, tm, ps⟩ := y
    simp only [renS, Function.comp, List.map_map, Sc.mk.injEq, true_and]
    have : ∀ p ∈ ps, (renP EVE fr ∘ renP fr EVE) p = p := fun p hp => ren_back hf (hd p (mem_paras hy hp))
    rw [List.map_congr_left this]; simp
  rw [List.map_congr_left this]; simp
theorem paras_ren (fr tu : List UInt8) (xs : List Sc) : parasOf (xs.map (renS fr tu)) = (parasOf xs).map (renP fr tu) := by
  induction xs with
  | nil => rfl
  | cons y r ih => simp only [parasOf, List.map_cons, List.flatMap_cons, List.map_append] at ih ⊢; rw [ih]; rfl
theorem many_back {x : Sr} (hd : AllDrawn x) {fr : List UInt8} (hf : NameOk fr) : manyL EVE fr (parasOf (renR fr EVE x).scenes) = manyL fr EVE (parasOf x.scenes) := by
  simp only [renR, paras_ren, manyL, List.countP_map]
  refine List.countP_congr fun p hp => ?_
  simp only [Function.comp, chgP, ren_back hf (hd p hp)]
  simp only [bne_iff_ne, ne_eq]
  exact ⟨fun h e => h e.symm, fun h e => h e.symm⟩
theorem fit_back {x : Sr} (hd : AllDrawn x) {fr : List UInt8} (hf : NameOk fr) : bigL EVE fr (parasOf (renR fr EVE x).scenes) = false ∧ formL EVE fr (parasOf (renR fr EVE x).scenes) = false := by
  have key : ∀ p ∈ parasOf x.scenes, bigP p = false ∧ formP p = false := fun p hp => by
    have := (hd p hp).ok
    simp only [paraOk, Bool.and_eq_true, decide_eq_true_eq, bne_iff_ne, ne_eq, Bool.or_eq_true, Bool.not_eq_true'] at this
    obtain ⟨h1, h2, h3, h4, h5, h6, h7, h8⟩ := this
    simp only [bigP, formP, Bool.or_eq_false_iff, decide_eq_false_iff_not, Bool.and_eq_false_iff, Bool.not_eq_false', beq_eq_false_iff_ne]
    exact ⟨⟨by omega, h7.imp id (fun h => by omega)⟩, h8⟩
  simp only [renR, paras_ren, bigL, formL, List.any_map]
  refine ⟨?_, ?_⟩ <;> rw [List.any_eq_false] <;> intro p hp <;> simp only [Function.comp, ren_back hf (hd p hp), key p hp] <;> simp

theorem hasL_iff (xs : List Sc) (t : List UInt8) : hasL xs t = true ↔ ∃ p ∈ parasOf xs, p.kind = 2 ∧ p.text = t := by
  simp only [hasL, hasCueL, List.any_eq_true, eqP, Bool.and_eq_true, beq_iff_eq, parasOf, List.mem_flatMap]
  exact ⟨fun ⟨y, hy, p, hp, h1, h2⟩ => ⟨p, ⟨y, hy, hp⟩, h1.symm, h2.symm⟩, fun ⟨p, ⟨y, hy, hp⟩, h1, h2⟩ => ⟨y, hy, p, hp, h1.symm, h2.symm⟩⟩
theorem has_from {xs : List Sc} {t : List UInt8} (h : cueIn xs t) : hasL xs t = true := by
  obtain ⟨y, hy, p, hp, h1, h2⟩ := h
  exact (hasL_iff xs t).2 ⟨p, mem_paras hy hp, h1, h2⟩
theorem no_eve {x : Sr} (hd : AllDrawn x) : hasL x.scenes EVE = false := by
  cases h : hasL x.scenes EVE with
  | false => rfl
  | true =>
    obtain ⟨p, hp, h1, h2⟩ := (hasL_iff _ _).1 h
    exact (text_ne_eve (hd p hp).text h2).elim
theorem name_of {x : Sr} (hd : AllDrawn x) {t : List UInt8} (h : hasL x.scenes t = true) : NameOk t := by
  obtain ⟨p, hp, h1, h2⟩ := (hasL_iff _ _).1 h
  rw [← h2]
  exact name_ok ((hd p hp).name h1)
theorem has_eve {x : Sr} {fr : List UInt8} (h : hasL x.scenes fr = true) : hasL (renR fr EVE x).scenes EVE = true := by
  obtain ⟨p, hp, h1, h2⟩ := (hasL_iff _ _).1 h
  refine (hasL_iff _ _).2 ⟨renP fr EVE p, ?_, h1, ?_⟩
  · rw [renR, paras_ren]; exact List.mem_map_of_mem hp
  · simp [renP, h1, h2]
theorem no_from {x : Sr} {fr : List UInt8} (he : fr ≠ EVE) : hasL (renR fr EVE x).scenes fr = false := by
  cases h : hasL (renR fr EVE x).scenes fr with
  | false => rfl
  | true =>
    obtain ⟨p, hp, h1, h2⟩ := (hasL_iff _ _).1 h
    rw [renR, paras_ren] at hp
    obtain ⟨q, hq, rfl⟩ := List.mem_map.1 hp
    have hk : q.kind = 2 := h1
    simp only [renP, hk] at h2
    cases hf : q.text == fr with
    | true => simp [hf] at h2; exact (he h2.symm).elim
    | false =>
      simp only [hf] at h2
      have : q.text = fr := by simpa using h2
      simp [this] at hf
end Go.Proofs.YtpjbbpilgfihbaaGreatDoor
/- A copy of paragraphs. Own work of this seat. -/
set_option maxRecDepth 100000
set_option linter.unusedSimpArgs false
set_option linter.unusedVariables false
namespace Go.Proofs.YtpjbbpilgfihbaaGreatDoor
open Go Go.Av Go.RowKit
attribute [local go_sem ↓] br_true br_false dbr_true dbr_false dbri_true dbri_false dbrg_true dbrg_false
attribute [local go_sem] run cont br dbr dx dxc dgrd dyld dres dcall calm fieldPlace? allHas step1 opN grdN resN condN exitN stopN exitIt dOk xop xbin xint xarith xstr xbool xpick xnot xneg xextract xpart xpartOk xindex xfieldF fieldD xnew xbox xalloc xfieldAddr xptrAddIf xindexAddr xloadC xload putCells reElem xstoreB xstore xconv xtext xlen xlen2 xcall xfill xbuild cut rep xbuildSlice xbuildSliceD isRow elemD isU8 ev evs evp Go.Av.put Go.Av.get ofConst yldD yldV notBool_undef args0 cellsOf cond_true cond_false decide_true decide_false decide_eq_true_eq decide_eq_false_iff_not List.getElem?_cons_zero List.getElem?_cons_succ List.getElem?_nil List.getD_cons_zero List.getD_cons_succ List.getD_nil List.set_cons_zero List.set_cons_succ List.length_cons List.length_nil List.cons_append List.nil_append List.append_nil List.all_cons List.all_nil List.map_cons List.map_nil List.take_succ_cons List.take_zero List.drop_succ_cons List.drop_zero Bool.and_true Bool.true_and Bool.and_self Bool.and_false Bool.false_and one Go.Av.frozen beq_self_eq_true true_and and_true forall_const false_implies implies_true and_self Option.map_some Option.map_none Nat.zero_add Nat.add_zero Nat.zero_mul Nat.mul_one Nat.one_mul Int.toNat_zero ne_eq not_false_eq_true not_true_eq_false Bool.true_eq_false Bool.false_eq_true List.toList_toArray inr Go.Av.byteOf isByte decide_eq_decide Bool.not_true Bool.not_false Bool.not_eq_true' Bool.or_true Bool.true_or Bool.or_false Bool.false_or ge_iff_le gt_iff_lt and_assoc Bool.decide_eq_true beq_iff_eq beq_eq_false_iff_ne bne_iff_ne bne_self_eq_false if_true if_false Bool.and_eq_true Bool.or_eq_true Bool.and_eq_false_imp Bool.or_eq_false_iff Bool.not_eq_false' has Option.isSome_some Option.isSome_none Int.toNat_natCast Int.cast_ofNat_Int List.length_append xapp2 xapp xappS xappD xappB notInt srcOf srcB byteAV splice' xcut xcutS xcutF xcutB xcutN xcut0 cutL loOf hiOf evo xmake zelem xmax xcopy2 xcopyS xcopyB xnil xcut3 ixOf xclear2 xclearB List.getElem?_toArray xbin2 xnileq xempty xmkmap xmput xmputB xmputF isKey keyEq mfind xbin3 xeqs xeqop eqFs bothB leafEq xlook xlookB xlookF xbytes beq_c_n beq_n_c bne_c_n bne_n_c one_nil dxi dxic dbri rix dck reader blind opOk refOk Go.Op.operands Go.Call.operands List.contains_cons List.contains_nil dxg dxgc dbrg pck putD List.lookup_cons List.lookup_nil ts2 tb2 zl2 za2 Tryz.underlying2 ts3 tb3 zl3 za3 Tryz.underlying3 ts4 tb4 zl4 za4 Tryz.underlying4 ts5 tb5 zl5 za5 Tryz.underlying5 ts6 tb6 zl6 za6 Tryz.underlying6 ts7 tb7 za7 Tryz.underlying7 ts8 tb8 za8 Tryz.underlying8 ts9 tb9 zl9 za9 Tryz.underlying9 ts10 tb10 zl10 za10 Tryz.underlying10 ts11 tb11 zl11 za11 Tryz.underlying11 ts12 tb12 zl12 za12 Tryz.underlying12 ts13 tb13 za13 Tryz.underlying13 ts14 tb14 za14 Tryz.underlying14 ts18 tb18 za18 Tryz.underlying18 ts19 tb19 za19 Tryz.underlying19 ts21 tb21 zl21 za21 Tryz.underlying21 ts22 tb22 zl22 za22 Tryz.underlying22 ts24 tb24 za24 Tryz.underlying24 ts25 tb25 za25 Tryz.underlying25 ts27 tb27 zl27 za27 Tryz.underlying27 ts35 tb35 zl35 za35 Tryz.underlying35 ts36 tb36 za36 Tryz.underlying36 ts37 tb37 za37 Tryz.underlying37 ts39 tb39 zl39 za39 Tryz.underlying39 ts41 tb41 za41 Tryz.underlying41 ts42 tb42 za42 Tryz.underlying42 ts63 tb63 zl63 za63 Tryz.underlying63 ts64 tb64 zl64 za64 Tryz.underlying64 ts65 tb65 za65 Tryz.underlying65 ts66 tb66 za66 Tryz.underlying66 ts67 tb67 zl67 za67 Tryz.underlying67 ts69 tb69 za69 Tryz.underlying69 ts70 tb70 za70 Tryz.underlying70 ts73 tb73 za73 Tryz.underlying73 ts74 tb74 za74 Tryz.underlying74 ts75 tb75 zl75 za75 Tryz.underlying75 ts82 tb82 zl82 za82 Tryz.underlying82 ts96 tb96 za96 Tryz.underlying96 ts97 tb97 za97 Tryz.underlying97 ts103 tb103 za103 Tryz.underlying103 ts104 tb104 za104 Tryz.underlying104 ts109 tb109 zl109 za109 Tryz.underlying109 ts116 tb116 zl116 za116 Tryz.underlying116 ts117 tb117 za117 Tryz.underlying117 ts118 tb118 za118 Tryz.underlying118 ts120 tb120 zl120 za120 Tryz.underlying120 ts124 tb124 zl124 za124 Tryz.underlying124 ts126 tb126 za126 Tryz.underlying126 ts128 tb128 zl128 za128 Tryz.underlying128 ts130 tb130 za130 Tryz.underlying130 ts131 tb131 za131 Tryz.underlying131 ts153 tb153 zl153 za153 Tryz.underlying153 ts167 tb167 zl167 za167 Tryz.underlying167 ts171 tb171 zl171 za171 Tryz.underlying171 ts177 tb177 zl177 za177 Tryz.underlying177 ts183 tb183 zl183 za183 Tryz.underlying183 ts189 tb189 zl189 za189 Tryz.underlying189 ts191 tb191 zl191 za191 Tryz.underlying191 ts195 tb195 za195 Tryz.underlying195 ts196 tb196 za196 Tryz.underlying196 ts198 tb198 zl198 za198 Tryz.underlying198 ts203 tb203 Tryz.underlying203 ts209 tb209 za209 Tryz.underlying209 ts210 tb210 za210 Tryz.underlying210 ts211 tb211 Tryz.underlying211 ts216 tb216 za216 Tryz.underlying216 ts217 tb217 za217 Tryz.underlying217 ts220 tb220 Tryz.underlying220 ts225 tb225 Tryz.underlying225 ts226 tb226 Tryz.underlying226 ts227 tb227 za227 Tryz.underlying227 ts228 tb228 za228 Tryz.underlying228 ts232 tb232 zl232 za232 Tryz.underlying232 ts233 tb233 zl233 za233 Tryz.underlying233 ts235 tb235 zl235 za235 Tryz.underlying235 ts236 tb236 zl236 za236 Tryz.underlying236 ts237 tb237 za237 Tryz.underlying237 ts238 tb238 za238 Tryz.underlying238

theorem cloneP_pc (ps : List Pa) (hl : ps.length ≤ 100000) : Pc Tryz.prog 76 [.fz 2 (ps.map paA)] (· = .fz 2 (ps.map paA)) := by
  cases ps with
  | nil =>
    refine pc_intro (ct_intro Tryz.func76 rfl Tryz.ntmps76 hB76 (by simp) fun h ρ w => go (N := 8) Tryz.ntmps76 300 ?_)
    simp only [go_sem, Nat.reduceAdd, Nat.reduceMul, Nat.reduceSub, Nat.reduceBEq, Nat.reduceLT, Nat.reduceLeDiff, reduceIte, reduceCtorEq, Int.reduceToNat, Int.reduceLE, Int.reduceLT, Int.reduceNe, Int.reduceMul, Int.reduceAdd, Int.reduceSub, Int.reduceDiv, Int.reduceMod, Int.reduceEq, Int.reduceGE, Int.reduceGT, Int.reduceNeg, Int.reduceBEq, Int.reduceBNe, Nat.reduceEqDiff]
    intro b
    refine go (N := 8) Tryz.ntmps76 300 ?_
    cases b with
    | true =>
      simp only [go_sem, Nat.reduceAdd, Nat.reduceMul, Nat.reduceSub, Nat.reduceBEq, Nat.reduceLT, Nat.reduceLeDiff, reduceIte, reduceCtorEq, Int.reduceToNat, Int.reduceLE, Int.reduceLT, Int.reduceNe, Int.reduceMul, Int.reduceAdd, Int.reduceSub, Int.reduceDiv, Int.reduceMod, Int.reduceEq, Int.reduceGE, Int.reduceGT, Int.reduceNeg, Int.reduceBEq, Int.reduceBNe, Nat.reduceEqDiff]
      exact ARet.shift (Shift.nilfz 2 2 rfl) (aret [2] rfl ⟨rfl, rfl⟩)
    | false =>
      simp only [go_sem, Nat.reduceAdd, Nat.reduceMul, Nat.reduceSub, Nat.reduceBEq, Nat.reduceLT, Nat.reduceLeDiff, reduceIte, reduceCtorEq, Int.reduceToNat, Int.reduceLE, Int.reduceLT, Int.reduceNe, Int.reduceMul, Int.reduceAdd, Int.reduceSub, Int.reduceDiv, Int.reduceMod, Int.reduceEq, Int.reduceGE, Int.reduceGT, Int.reduceNeg, Int.reduceBEq, Int.reduceBNe, Nat.reduceEqDiff]
      refine ⟨.inl trivial, ?_⟩
      exact ARet.shift (Shift.freeze 2 (id := 0) rfl rfl rfl (Nat.le_refl _) rfl) (aret [2] rfl ⟨rfl, rfl⟩)
  | cons p ps =>
    refine pc_of_ct (n := (p :: ps).length) (by simp) (frozen_paras _) ?_
    refine ct_intro Tryz.func76 rfl Tryz.ntmps76 hB76 (by simp) fun h ρ w => go (N := 8) Tryz.ntmps76 300 ?_
    simp only [go_sem, Nat.reduceAdd, Nat.reduceMul, Nat.reduceSub, Nat.reduceBEq, Nat.reduceLT, Nat.reduceLeDiff, reduceIte, reduceCtorEq, Int.reduceToNat, Int.reduceLE, Int.reduceLT, Int.reduceNe, Int.reduceMul, Int.reduceAdd, Int.reduceSub, Int.reduceDiv, Int.reduceMod, Int.reduceEq, Int.reduceGE, Int.reduceGT, Int.reduceNeg, Int.reduceBEq, Int.reduceBNe, Nat.reduceEqDiff, paA]
    refine ⟨by simp, by simp at hl ⊢; omega, by simp at hl ⊢; omega, aret [2] rfl ⟨by simp [resV, Av.get, paA], rfl⟩⟩
theorem small_paras {x : Sr} (hx : ScriptOk x) : ∀ y ∈ x.scenes, y.paras.length ≤ 100000 := fun y hy => by
  have h1 := sum_ge x.scenes y hy
  have h2 := hx.many
  omega
end Go.Proofs.YtpjbbpilgfihbaaGreatDoor
/- A call that makes one new block, told as one that fills a block set aside. Own work of this seat. -/
set_option linter.unusedSimpArgs false
set_option linter.unusedVariables false
namespace Go.Av
open Go Go.RowKit

theorem Ct.fill {P : Program} {f : FuncId} {args : List AV} {n es : Nat} {l : List AV} (hc : Ct P f args [] (fun r s => r = .sl 0 0 n n ∧ s = [.arr es l])) (hn : 0 < n) (hlen : l.length = n) (ha : args.all frozen = true) (hf : (flat l).all frozen = true)
    {s : List Blk} {id : Nat} (hid : s[id]? = some (.arr es [])) : Ct P f args s (fun r s' => r = .sl id 0 n n ∧ s' = s.set id (.arr es l)) := by
  refine ⟨hc.1, fun h ρ w vs m r => ?_⟩
  have hs := hid
  have hidl := (List.getElem?_eq_some_iff.1 hs).1
  have hm0 : Mine h (fun _ => none) [] w := ⟨m.mem, fun id blk e => by simp at e, fun _ _ => rfl, fun i j g t t' e => by simp at e, fun i g t e => by simp at e⟩
  refine (hc.2 h (fun _ => none) w vs hm0 (rl_frozen ha r)).mono ?_
  rintro en w' ⟨v, r, s1, h', ρ1, rfl, ⟨rfl, rfl⟩, m', lt, rv⟩
  have hne : l ≠ [] := by intro h; rw [h] at hlen; simp at hlen; omega
  have hgood : ∀ i g t, ρ1 i = some (g, t) → w.heap.size ≤ g := fun i g t e => by
    rcases lt.newown i g t e with ⟨j, t', hj⟩ | h
    · cases hj
    · exact h
  have hblk : ∀ k, k < w.heap.size → w'.heap[k]? = w.heap[k]? := fun k hk => lt.block k hk (fun i t e => by cases e)
  have hnew : ∀ b o, h b o = none → h' b o ≠ none → w.heap.size ≤ b := fun b o e n => by
    rcases lt.hnew b o e n with ⟨j, t', hj⟩ | h
    · cases hj
    · exact h
  have hρ : ∀ i, i ≠ id → upd ρ id (ρ1 0) i = ρ i := fun i hi => by simp [upd, hi]
  have hρi : upd ρ id (ρ1 0) id = ρ1 0 := by simp [upd]
  have hkeep : ∀ v a, Lf ρ s v a → Lf (upd ρ id (ρ1 0)) (s.set id (.arr es l)) v a := fun v a x => ⟨x.1, LfC_set (b' := .arr es l) hs hρ (Or.inr (by
    rw [hlen]; exact hn)) x.2⟩
  have hown : ∀ i g t, upd ρ id (ρ1 0) i = some (g, t) → (i ≠ id ∧ ρ i = some (g, t) ∧ g < w.heap.size) ∨ (i = id ∧ ρ1 0 = some (g, t) ∧ w.heap.size ≤ g) := fun i g t e => by
    by_cases hi : i = id
    · rw [hi, hρi] at e
      exact .inr ⟨hi, e, hgood 0 g t e⟩
    · rw [hρ i hi] at e
      exact .inl ⟨hi, e, m.lt e⟩
  refine ⟨v, _, _, h', upd ρ id (ρ1 0), rfl, ⟨rfl, rfl⟩, ⟨m'.mem, ?_, ?_, ?_, ?_⟩, ⟨lt.hle, fun b o e n => .inr (hnew b o e n), hkeep, lt.os, lt.tape, lt.output, lt.size, fun k hk _ => hblk k hk, ?_⟩, ?_⟩
  · intro i blk e
    by_cases hi : i = id
    · subst hi
      simp [hidl] at e
      subst e
      rcases m'.own 0 (.arr es l) rfl with ⟨h1, h2⟩ | ⟨g, tot, cur, t, h1, h2, h3, h4, h5, h6, h7, h8, h9⟩
      · exact (hne h1).elim
      · exact .inr ⟨g, tot, cur, t, hρi.trans h1, h2, h3, h4, h5, h6, h7, h8, rl_frozen hf h9⟩
    · rw [List.getElem?_set_ne (Ne.symm hi)] at e
      exact (m.own i blk e).mono lt.hle hkeep (hρ i hi) (fun g t hg => hblk g (m.lt hg))
  · intro i hi
    simp at hi
    rw [hρ i (by omega)]
    exact m.out i hi
  · intro i j g t t' hi hj
    rcases hown i g t hi with ⟨a1, a2, a3⟩ | ⟨a1, a2, a3⟩ <;> rcases hown j g t' hj with ⟨b1, b2, b3⟩ | ⟨b1, b2, b3⟩
    · exact m.inj i j g t t' a2 b2
    · omega
    · omega
    · omega
  · intro i g t e o
    rcases hown i g t e with ⟨a1, a2, a3⟩ | ⟨a1, a2, a3⟩
    · cases hq : h' g o with
      | none => rfl
      | some z =>
        have := hnew g o (m.disj i g t a2 o) (by rw [hq]; simp)
        omega
    · exact m'.disj 0 g t a2 o
  · intro i g t e
    rcases hown i g t e with ⟨a1, a2, a3⟩ | ⟨a1, a2, a3⟩
    · exact .inl ⟨i, t, a2⟩
    · exact .inr a3
  · have q := inv_sl rv
    exact .leaf ⟨q.1, LfC_at (blk := .arr es l) rfl (by simp [hidl]) hρi q.2⟩
end Go.Av
/- A copy of a script whose paragraphs may be written. Own work of this seat. -/
set_option maxRecDepth 100000
set_option linter.unusedSimpArgs false
set_option linter.unusedVariables false
namespace Go.Proofs.YtpjbbpilgfihbaaGreatDoor
open Go Go.Av Go.RowKit
attribute [local go_sem ↓] br_true br_false dbr_true dbr_false dbri_true dbri_false dbrg_true dbrg_false
attribute [local go_sem] run cont br dbr dx dxc dgrd dyld dres dcall calm fieldPlace? allHas step1 opN grdN resN condN exitN stopN exitIt dOk xop xbin xint xarith xstr xbool xpick xnot xneg xextract xpart xpartOk xindex xfieldF fieldD xnew xbox xalloc xfieldAddr xptrAddIf xindexAddr xloadC xload putCells reElem xstoreB xstore xconv xtext xlen xlen2 xcall xfill xbuild cut rep xbuildSlice xbuildSliceD isRow elemD isU8 ev evs evp Go.Av.put Go.Av.get ofConst yldD yldV notBool_undef args0 cellsOf cond_true cond_false decide_true decide_false decide_eq_true_eq decide_eq_false_iff_not List.getElem?_cons_zero List.getElem?_cons_succ List.getElem?_nil List.getD_cons_zero List.getD_cons_succ List.getD_nil List.set_cons_zero List.set_cons_succ List.length_cons List.length_nil List.cons_append List.nil_append List.append_nil List.all_cons List.all_nil List.map_cons List.map_nil List.take_succ_cons List.take_zero List.drop_succ_cons List.drop_zero Bool.and_true Bool.true_and Bool.and_self Bool.and_false Bool.false_and one Go.Av.frozen beq_self_eq_true true_and and_true forall_const false_implies implies_true and_self Option.map_some Option.map_none Nat.zero_add Nat.add_zero Nat.zero_mul Nat.mul_one Nat.one_mul Int.toNat_zero ne_eq not_false_eq_true not_true_eq_false Bool.true_eq_false Bool.false_eq_true List.toList_toArray inr Go.Av.byteOf isByte decide_eq_decide Bool.not_true Bool.not_false Bool.not_eq_true' Bool.or_true Bool.true_or Bool.or_false Bool.false_or ge_iff_le gt_iff_lt and_assoc Bool.decide_eq_true beq_iff_eq beq_eq_false_iff_ne bne_iff_ne bne_self_eq_false if_true if_false Bool.and_eq_true Bool.or_eq_true Bool.and_eq_false_imp Bool.or_eq_false_iff Bool.not_eq_false' has Option.isSome_some Option.isSome_none Int.toNat_natCast Int.cast_ofNat_Int List.length_append xapp2 xapp xappS xappD xappB notInt srcOf srcB byteAV splice' xcut xcutS xcutF xcutB xcutN xcut0 cutL loOf hiOf evo xmake zelem xmax xcopy2 xcopyS xcopyB xnil xcut3 ixOf xclear2 xclearB List.getElem?_toArray xbin2 xnileq xempty xmkmap xmput xmputB xmputF isKey keyEq mfind xbin3 xeqs xeqop eqFs bothB leafEq xlook xlookB xlookF xbytes beq_c_n beq_n_c bne_c_n bne_n_c one_nil dxi dxic dbri rix dck reader blind opOk refOk Go.Op.operands Go.Call.operands List.contains_cons List.contains_nil dxg dxgc dbrg pck putD List.lookup_cons List.lookup_nil ts2 tb2 zl2 za2 Tryz.underlying2 ts3 tb3 zl3 za3 Tryz.underlying3 ts4 tb4 zl4 za4 Tryz.underlying4 ts5 tb5 zl5 za5 Tryz.underlying5 ts6 tb6 zl6 za6 Tryz.underlying6 ts7 tb7 za7 Tryz.underlying7 ts8 tb8 za8 Tryz.underlying8 ts9 tb9 zl9 za9 Tryz.underlying9 ts10 tb10 zl10 za10 Tryz.underlying10 ts11 tb11 zl11 za11 Tryz.underlying11 ts12 tb12 zl12 za12 Tryz.underlying12 ts13 tb13 za13 Tryz.underlying13 ts14 tb14 za14 Tryz.underlying14 ts18 tb18 za18 Tryz.underlying18 ts19 tb19 za19 Tryz.underlying19 ts21 tb21 zl21 za21 Tryz.underlying21 ts22 tb22 zl22 za22 Tryz.underlying22 ts24 tb24 za24 Tryz.underlying24 ts25 tb25 za25 Tryz.underlying25 ts27 tb27 zl27 za27 Tryz.underlying27 ts35 tb35 zl35 za35 Tryz.underlying35 ts36 tb36 za36 Tryz.underlying36 ts37 tb37 za37 Tryz.underlying37 ts39 tb39 zl39 za39 Tryz.underlying39 ts41 tb41 za41 Tryz.underlying41 ts42 tb42 za42 Tryz.underlying42 ts63 tb63 zl63 za63 Tryz.underlying63 ts64 tb64 zl64 za64 Tryz.underlying64 ts65 tb65 za65 Tryz.underlying65 ts66 tb66 za66 Tryz.underlying66 ts67 tb67 zl67 za67 Tryz.underlying67 ts69 tb69 za69 Tryz.underlying69 ts70 tb70 za70 Tryz.underlying70 ts73 tb73 za73 Tryz.underlying73 ts74 tb74 za74 Tryz.underlying74 ts75 tb75 zl75 za75 Tryz.underlying75 ts82 tb82 zl82 za82 Tryz.underlying82 ts96 tb96 za96 Tryz.underlying96 ts97 tb97 za97 Tryz.underlying97 ts103 tb103 za103 Tryz.underlying103 ts104 tb104 za104 Tryz.underlying104 ts109 tb109 zl109 za109 Tryz.underlying109 ts116 tb116 zl116 za116 Tryz.underlying116 ts117 tb117 za117 Tryz.underlying117 ts118 tb118 za118 Tryz.underlying118 ts120 tb120 zl120 za120 Tryz.underlying120 ts124 tb124 zl124 za124 Tryz.underlying124 ts126 tb126 za126 Tryz.underlying126 ts128 tb128 zl128 za128 Tryz.underlying128 ts130 tb130 za130 Tryz.underlying130 ts131 tb131 za131 Tryz.underlying131 ts153 tb153 zl153 za153 Tryz.underlying153 ts167 tb167 zl167 za167 Tryz.underlying167 ts171 tb171 zl171 za171 Tryz.underlying171 ts177 tb177 zl177 za177 Tryz.underlying177 ts183 tb183 zl183 za183 Tryz.underlying183 ts189 tb189 zl189 za189 Tryz.underlying189 ts191 tb191 zl191 za191 Tryz.underlying191 ts195 tb195 za195 Tryz.underlying195 ts196 tb196 za196 Tryz.underlying196 ts198 tb198 zl198 za198 Tryz.underlying198 ts203 tb203 Tryz.underlying203 ts209 tb209 za209 Tryz.underlying209 ts210 tb210 za210 Tryz.underlying210 ts211 tb211 Tryz.underlying211 ts216 tb216 za216 Tryz.underlying216 ts217 tb217 za217 Tryz.underlying217 ts220 tb220 Tryz.underlying220 ts225 tb225 Tryz.underlying225 ts226 tb226 Tryz.underlying226 ts227 tb227 za227 Tryz.underlying227 ts228 tb228 za228 Tryz.underlying228 ts232 tb232 zl232 za232 Tryz.underlying232 ts233 tb233 zl233 za233 Tryz.underlying233 ts235 tb235 zl235 za235 Tryz.underlying235 ts236 tb236 zl236 za236 Tryz.underlying236 ts237 tb237 za237 Tryz.underlying237 ts238 tb238 za238 Tryz.underlying238

theorem cloneP_ct (ps : List Pa) (h0 : ps.isEmpty = false) (hl : ps.length ≤ 100000) : Ct Tryz.prog 76 [.fz 2 (ps.map paA)] [] (fun r s => r = .sl 0 0 ps.length ps.length ∧ s = [.arr 2 (ps.map paA)]) := by
  cases ps with
  | nil => cases h0
  | cons p ps =>
    refine ct_intro Tryz.func76 rfl Tryz.ntmps76 hB76 (by simp) fun h ρ w => go (N := 8) Tryz.ntmps76 300 ?_
    simp only [go_sem, Nat.reduceAdd, Nat.reduceMul, Nat.reduceSub, Nat.reduceBEq, Nat.reduceLT, Nat.reduceLeDiff, reduceIte, reduceCtorEq, Int.reduceToNat, Int.reduceLE, Int.reduceLT, Int.reduceNe, Int.reduceMul, Int.reduceAdd, Int.reduceSub, Int.reduceDiv, Int.reduceMod, Int.reduceEq, Int.reduceGE, Int.reduceGT, Int.reduceNeg, Int.reduceBEq, Int.reduceBNe, Nat.reduceEqDiff, paA]
    refine ⟨by simp, by simp at hl ⊢; omega, by simp at hl ⊢; omega, aret [2] rfl ⟨by simp [resV, Av.get, paA], rfl⟩⟩

/-- the paragraphs of a scene, where they lie in the block j -/
def cellP (j : Nat) (x : Sc) : AV := bif x.paras.isEmpty then .fz 2 [] else .sl j 0 x.paras.length x.paras.length
def scH (j : Nat) (x : Sc) : AV := .agg [.str x.no, .int .i64 x.place, .str x.set, .int .i64 x.time, cellP j x]
def hsc : Nat → List Sc → List AV
  | _, [] => []
  | j, x :: r => scH j x :: hsc (j + 1) r
theorem hsc_snoc : ∀ (l : List Sc) (j : Nat) (x : Sc), hsc j (l ++ [x]) = hsc j l ++ [scH (j + l.length) x]
  | [], j, x => rfl
  | y :: r, j, x => by
    have := hsc_snoc r (j + 1) x
    simp only [List.cons_append, hsc, this, List.length_cons]
    rw [show j + 1 + r.length = j + (r.length + 1) by omega]
theorem hsc_len : ∀ (l : List Sc) (j : Nat), (hsc j l).length = l.length
  | [], _ => rfl
  | _ :: r, j => by simp [hsc, hsc_len r (j + 1)]
def blkM (x : Sc) : Blk := .arr 2 (x.paras.map paA)
theorem low_cellP {n j : Nat} (h : j < n) (x : Sc) : lowC n (cellP j x) = true := by
  unfold cellP
  cases x.paras.isEmpty with
  | true => rfl
  | false => simpa [lowC] using h
theorem low_hsc (n : Nat) : ∀ (l : List Sc) (j : Nat), j + l.length ≤ n → (flat (hsc j l)).all (lowC n) = true
  | [], _, _ => rfl
  | x :: r, j, h => by
    simp only [List.length_cons] at h
    have ih := low_hsc n r (j + 1) (by omega)
    have hc := low_cellP (n := n) (j := j) (by omega) x
    simp only [hsc, flat, scH, cellsOf, List.cons_append, List.nil_append, List.all_cons, hc, ih]
    rfl
theorem low_blkM (n : Nat) (x : Sc) : lowB n (blkM x) = true := low_all (frozen_paras x.paras)

/-- the table of a copy -/
def tabC (b0 b1 b2 b3 : Blk) (V : List Blk) (o sc : Blk) (r : List Blk) : List Blk := b0 :: b1 :: b2 :: b3 :: o :: sc :: (V ++ r)
section
variable {b0 b1 b2 b3 o sc : Blk} {V r : List Blk}
theorem tabC_app (y : Blk) : tabC b0 b1 b2 b3 V o sc r ++ [y] = tabC b0 b1 b2 b3 V o sc (r ++ [y]) := by simp [tabC]
theorem tabC_len : (tabC b0 b1 b2 b3 V o sc r).length = V.length + (r.length + 6) := by simp [tabC]; omega
theorem tabC_o : (tabC b0 b1 b2 b3 V o sc r).getD 4 .dead = o := rfl
theorem tabC_sc : (tabC b0 b1 b2 b3 V o sc r).getD 5 .dead = sc := rfl
theorem tabC_b3 : (tabC b0 b1 b2 b3 V o sc r).getD 3 .dead = b3 := rfl
theorem tabC_so (y : Blk) : (tabC b0 b1 b2 b3 V o sc r).set 4 y = tabC b0 b1 b2 b3 V y sc r := rfl
theorem tabC_ssc (y : Blk) : (tabC b0 b1 b2 b3 V o sc r).set 5 y = tabC b0 b1 b2 b3 V o y r := rfl
theorem tabC_get? (k : Nat) : (tabC b0 b1 b2 b3 V o sc r)[V.length + (k + 6)]? = r[k]? := by
  show (V ++ r)[V.length + k]? = r[k]?
  rw [List.getElem?_append_right (by omega)]
  congr 1; omega
theorem tabC_get (k : Nat) : (tabC b0 b1 b2 b3 V o sc r).getD (V.length + (k + 6)) .dead = r.getD k .dead := by
  simp only [List.getD, tabC_get?]
theorem tabC_set (k : Nat) (y : Blk) : (tabC b0 b1 b2 b3 V o sc r).set (V.length + (k + 6)) y = tabC b0 b1 b2 b3 V o sc (r.set k y) := by
  show b0 :: b1 :: b2 :: b3 :: o :: sc :: ((V ++ r).set (V.length + k) y) = _
  rw [List.set_append_right _ _ (by omega), show V.length + k - V.length = k by omega]
  rfl
theorem tabC_take (k : Nat) : (tabC b0 b1 b2 b3 V o sc r).take (V.length + (k + 6)) = tabC b0 b1 b2 b3 V o sc (r.take k) := by
  show b0 :: b1 :: b2 :: b3 :: o :: sc :: ((V ++ r).take (V.length + k)) = _
  rw [List.take_append, List.take_of_length_le (by omega), show V.length + k - V.length = k by omega]
  rfl
theorem tabC_all (p : Blk → Bool) : (tabC b0 b1 b2 b3 V o sc r).all p = (p b0 && (p b1 && (p b2 && (p b3 && (p o && (p sc && (V.all p && r.all p))))))) := by
  simp only [tabC, List.all_cons, List.all_append]
theorem tabC_sb3 (y : Blk) : (tabC b0 b1 b2 b3 V o sc r).set 3 y = tabC b0 b1 b2 y V o sc r := rfl
theorem tabC_g0 : (tabC b0 b1 b2 b3 V o sc r).getD (V.length + 6) .dead = r.getD 0 .dead := tabC_get 0
theorem tabC_g1 : (tabC b0 b1 b2 b3 V o sc r).getD (V.length + 7) .dead = r.getD 1 .dead := tabC_get 1
theorem tabC_g2 : (tabC b0 b1 b2 b3 V o sc r).getD (V.length + 8) .dead = r.getD 2 .dead := tabC_get 2
theorem tabC_s0 (y : Blk) : (tabC b0 b1 b2 b3 V o sc r).set (V.length + 6) y = tabC b0 b1 b2 b3 V o sc (r.set 0 y) := tabC_set 0 y
theorem tabC_s1 (y : Blk) : (tabC b0 b1 b2 b3 V o sc r).set (V.length + 7) y = tabC b0 b1 b2 b3 V o sc (r.set 1 y) := tabC_set 1 y
theorem tabC_move (v : Blk) : tabC b0 b1 b2 b3 V o sc (v :: r) = tabC b0 b1 b2 b3 (V ++ [v]) o sc r := by simp [tabC]
theorem tabC_low (v : Blk) : (tabC b0 b1 b2 b3 V o sc (v :: r)).take (V.length + 7) = tabC b0 b1 b2 b3 (V ++ [v]) o sc [] := by
  rw [show V.length + 7 = V.length + (1 + 6) from rfl, tabC_take, ← tabC_move]; rfl
theorem tabC_shift {c : Cx} {e e' : Env} {v : Blk} (hc : c.sto.length ≤ V.length + 7) (h0 : lowB (V.length + 7) b0 = true) (h1 : lowB (V.length + 7) b1 = true) (h2 : lowB (V.length + 7) b2 = true) (h3 : lowB (V.length + 7) b3 = true) (h4 : lowB (V.length + 7) o = true) (h5 : lowB (V.length + 7) sc = true)
    (hV : V.all (lowB (V.length + 7)) = true) (hv : lowB (V.length + 7) v = true) (hw : wkl (V.length + 7) e e') : Shift c e (tabC b0 b1 b2 b3 V o sc (v :: r)) e' (tabC b0 b1 b2 b3 (V ++ [v]) o sc []) := by
  have h := Shift.low (c := c) (e := e) (e' := e') (s := tabC b0 b1 b2 b3 V o sc (v :: r)) (V.length + 7) hc (by rw [tabC_len]; simp) (by rw [tabC_low, tabC_all, List.all_append]; simp [h0, h1, h2, h3, h4, h5, hV, hv]) hw
  rwa [tabC_low] at h
end
def outBk (ti : List UInt8) (n : Nat) : Blk := .arr 2 [.agg [.str ti, .sl 5 0 n n]]
theorem low_out {n : Nat} (ti : List UInt8) (m : Nat) (h : 5 < n) : lowB n (outBk ti m) = true := by simp [outBk, lowB, flat, cellsOf, lowC, Av.frozen, h]

set_option maxHeartbeats 4000000 in
theorem copied_ct (b0 b1 : Blk) (h0 : ∀ n, 2 ≤ n → lowB n b0 = true) (h1 : ∀ n, 2 ≤ n → lowB n b1 = true) (ti : List UInt8) (xs : List Sc) (hl : xs.length ≤ 1000) (hp : ∀ y ∈ xs, y.paras.length ≤ 100000) :
    Ct Tryz.prog 41 [.agg [.str ti, .fz 5 (xs.map scA)]] [b0, b1] (fun r s => r = .agg [.str ti, .sl 5 0 xs.length xs.length] ∧ s = tabC b0 b1 (.arr 2 [.agg [.str ti, .fz 5 (xs.map scA)]]) (outBk ti xs.length) (xs.map blkM) (outBk ti xs.length) (.arr 5 (hsc 6 xs)) []) := by
  refine ct_intro Tryz.func41 rfl Tryz.ntmps41 hB41 (by simp) fun h ρ w => goF (N := 28) Tryz.ntmps41 300 ?_
  simp only [go_sem, Nat.reduceAdd, Nat.reduceMul, Nat.reduceSub, Nat.reduceBEq, Nat.reduceLT, Nat.reduceLeDiff, reduceIte, reduceCtorEq, Int.reduceToNat, Int.reduceLE, Int.reduceLT, Int.reduceNe, Int.reduceMul, Int.reduceAdd, Int.reduceSub, Int.reduceDiv, Int.reduceMod, Int.reduceEq, Int.reduceGE, Int.reduceGT, Int.reduceNeg, Int.reduceBEq, Int.reduceBNe, Nat.reduceEqDiff, List.length_map]
  refine aloop (ι := Nat) (fun i => xs.length - i)
    (fun i => [(12, .int .i64 i), (11, .int .i64 xs.length), (10, .fz 5 (xs.map scA)), (3, .ptr 4 1 0 0), (2, .ptr 3 1 0 0)])
    (fun i => tabC b0 b1 (.arr 2 [.agg [.str ti, .fz 5 (xs.map scA)]]) (.arr 2 [.agg [.str [], .raw (.slice none 0 0)]]) ((xs.take i).map blkM) (.arr 2 [.agg [.str ti, .sl 5 0 i i]]) (.arr 5 (hsc 6 (xs.take i))) []) (fun i => i ≤ xs.length) 0 (by simp) ?_ ?_
  · refine Shift.trans (Shift.cells 4 5 [.agg [.str ti, .sl 5 0 0 0]] rfl rfl (by simp [cellsOf]) ⟨.refl, .sl, trivial⟩) (Shift.weakS ?_ rfl)
    simp only [wk, go_sem, Nat.reduceAdd, Nat.reduceMul, Nat.reduceSub, Nat.reduceBEq, Nat.reduceLT, Nat.reduceLeDiff, reduceIte, reduceCtorEq, Int.reduceToNat, Int.reduceLE, Int.reduceLT, Int.reduceNe, Int.reduceMul, Int.reduceAdd, Int.reduceSub, Int.reduceDiv, Int.reduceMod, Int.reduceEq, Int.reduceGE, Int.reduceGT, Int.reduceNeg, Int.reduceBEq, Int.reduceBNe, Nat.reduceEqDiff]
  · intro i g1 J hJ
    by_cases gi : i < xs.length
    · have di : decide ((i : Int) < (xs.length : Int)) = true := by simp; omega
      have hg' : List.getD (List.map scA xs) i .any = .agg [.str xs[i].no, .int .i64 xs[i].place, .str xs[i].set, .int .i64 xs[i].time, .fz 2 (xs[i].paras.map paA)] := by simp [List.getD, gi, scA]
      have htl : (List.take i xs).length = i := by simp; omega
      have hsl : (hsc 6 (List.take i xs)).length = i := by rw [hsc_len, htl]
      have hVl : ((xs.take i).map blkM).length = i := by simp; omega
      have hsu : hsc 6 (List.take i xs) ++ [.agg [.str xs[i].no, .int .i64 xs[i].place, .str xs[i].set, .int .i64 xs[i].time, cellP (i + 6) xs[i]]] = hsc 6 (List.take (i + 1) xs) := by
        rw [List.take_succ_eq_append_getElem gi, hsc_snoc, htl, Nat.add_comm 6 i]; rfl
      have hVu : (List.take i xs).map blkM ++ [blkM xs[i]] = (List.take (i + 1) xs).map blkM := by
        rw [List.take_succ_eq_append_getElem gi, List.map_append]; rfl
      have hlow : ((List.take i xs).map blkM).all (lowB (i + 7)) = true := by
        rw [List.all_map, List.all_eq_true]; exact fun y _ => low_blkM _ y
      have hlsc := low_hsc (i + 7) (List.take (i + 1) xs) 6 (by simp; omega)
      refine AWp.shift (Shift.reserve 2) ?_
      rw [tabC_app, List.nil_append]
      have fin := hJ (i + 1) (by omega) (by omega)
      rw [← hVu, ← hsu] at fin
      rw [← hsu] at hlsc
      generalize (List.take i xs).map blkM = V at hVl hlow fin ⊢
      subst hVl
      cases he : xs[V.length].paras.isEmpty with
      | false =>
        have hcl := cloneP_ct _ he (hp _ (List.getElem_mem gi))
        have hn : 0 < xs[V.length].paras.length := by
          cases hq : xs[V.length].paras with
          | nil => rw [hq] at he; cases he
          | cons a r => simp
        refine go (N := 28) Tryz.ntmps41 300 ?_
        simp only [go_sem, Nat.reduceAdd, Nat.reduceMul, Nat.reduceSub, Nat.reduceBEq, Nat.reduceLT, Nat.reduceLeDiff, reduceIte, reduceCtorEq, Int.reduceToNat, Int.reduceLE, Int.reduceLT, Int.reduceNe, Int.reduceMul, Int.reduceAdd, Int.reduceSub, Int.reduceDiv, Int.reduceMod, Int.reduceEq, Int.reduceGE, Int.reduceGT, Int.reduceNeg, Int.reduceBEq, Int.reduceBNe, Nat.reduceEqDiff, di, hg', List.length_map, tabC_app, tabC_len, tabC_o, tabC_sc, tabC_g0, tabC_g1, tabC_s0, tabC_s1]
        repeat refine And.intro (by first | omega | exact .inl trivial | rfl | (simp; done) | (simp; omega)) ?_
        refine acall (Ct.fill hcl hn (by simp) rfl (frozen_paras _) (id := V.length + 6) (tabC_get? 0)) (N := 28) Tryz.ntmps41 rfl ?_
        rintro _ _ ⟨rfl, rfl⟩
        rw [tabC_s0]
        refine go (N := 28) Tryz.ntmps41 300 ?_
        simp only [go_sem, Nat.reduceAdd, Nat.reduceMul, Nat.reduceSub, Nat.reduceBEq, Nat.reduceLT, Nat.reduceLeDiff, reduceIte, reduceCtorEq, Int.reduceToNat, Int.reduceLE, Int.reduceLT, Int.reduceNe, Int.reduceMul, Int.reduceAdd, Int.reduceSub, Int.reduceDiv, Int.reduceMod, Int.reduceEq, Int.reduceGE, Int.reduceGT, Int.reduceNeg, Int.reduceBEq, Int.reduceBNe, Nat.reduceEqDiff, hg', List.length_map, tabC_app, tabC_len, tabC_o, tabC_so, tabC_sc, tabC_ssc, tabC_g0, tabC_g1, tabC_g2, tabC_s0, tabC_s1, hsl]
        have hce : cellP (V.length + 6) xs[V.length] = .sl (V.length + 6) 0 xs[V.length].paras.length xs[V.length].paras.length := by simp only [cellP, he, cond_false]
        rw [hce] at fin hlsc
        repeat refine And.intro (by first | omega | exact .inl trivial | exact .inl (.inl trivial) | rfl | (simp; done) | (simp; omega)) ?_
        rw [show (V.length : Int) + 1 = ((V.length + 1 : Nat) : Int) by omega]
        refine ainv fin (tabC_shift (by simp) (h0 _ (by omega)) (h1 _ (by omega)) rfl rfl (low_out _ _ (by omega)) hlsc hlow (low_blkM _ _) ?_)
        simp only [wkl, lowV, lowC, Av.get, go_sem, Nat.reduceAdd, Nat.reduceMul, Nat.reduceSub, Nat.reduceBEq, Nat.reduceLT, Nat.reduceLeDiff, reduceIte, reduceCtorEq, Int.reduceToNat, Int.reduceLE, Int.reduceLT, Int.reduceNe, Int.reduceMul, Int.reduceAdd, Int.reduceSub, Int.reduceDiv, Int.reduceMod, Int.reduceEq, Int.reduceGE, Int.reduceGT, Int.reduceNeg, Int.reduceBEq, Int.reduceBNe, Nat.reduceEqDiff]
        simp
      | true =>
        have hnil : xs[V.length].paras = [] := List.isEmpty_iff.1 he
        have hcl := cloneP_pc [] (by simp)
        have hce : cellP (V.length + 6) xs[V.length] = .fz 2 [] := by simp only [cellP, he, cond_true]
        have hbe : blkM xs[V.length] = .arr 2 [] := by simp only [blkM, hnil, List.map_nil]
        rw [hce] at fin hlsc
        rw [hbe] at fin
        rw [hnil] at hg'
        simp only [List.map_nil] at hg' hcl
        refine go (N := 28) Tryz.ntmps41 300 ?_
        simp only [go_sem, Nat.reduceAdd, Nat.reduceMul, Nat.reduceSub, Nat.reduceBEq, Nat.reduceLT, Nat.reduceLeDiff, reduceIte, reduceCtorEq, Int.reduceToNat, Int.reduceLE, Int.reduceLT, Int.reduceNe, Int.reduceMul, Int.reduceAdd, Int.reduceSub, Int.reduceDiv, Int.reduceMod, Int.reduceEq, Int.reduceGE, Int.reduceGT, Int.reduceNeg, Int.reduceBEq, Int.reduceBNe, Nat.reduceEqDiff, di, hg', List.length_map, tabC_app, tabC_len, tabC_o, tabC_sc, tabC_g0, tabC_g1, tabC_s0, tabC_s1]
        repeat refine And.intro (by first | omega | exact .inl trivial | rfl | (simp; done) | (simp; omega)) ?_
        refine pcall1 (hcl) rfl (N := 28) Tryz.ntmps41 rfl (go (N := 28) Tryz.ntmps41 300 ?_)
        simp only [go_sem, Nat.reduceAdd, Nat.reduceMul, Nat.reduceSub, Nat.reduceBEq, Nat.reduceLT, Nat.reduceLeDiff, reduceIte, reduceCtorEq, Int.reduceToNat, Int.reduceLE, Int.reduceLT, Int.reduceNe, Int.reduceMul, Int.reduceAdd, Int.reduceSub, Int.reduceDiv, Int.reduceMod, Int.reduceEq, Int.reduceGE, Int.reduceGT, Int.reduceNeg, Int.reduceBEq, Int.reduceBNe, Nat.reduceEqDiff, hg', List.length_map, tabC_app, tabC_len, tabC_o, tabC_so, tabC_sc, tabC_ssc, tabC_g0, tabC_g1, tabC_g2, tabC_s0, tabC_s1, hsl]
        repeat refine And.intro (by first | omega | exact .inl trivial | exact .inl (.inl trivial) | rfl | (simp; done) | (simp; omega)) ?_
        rw [show (V.length : Int) + 1 = ((V.length + 1 : Nat) : Int) by omega]
        refine ainv fin (tabC_shift (by simp) (h0 _ (by omega)) (h1 _ (by omega)) rfl rfl (low_out _ _ (by omega)) hlsc hlow rfl ?_)
        simp only [wkl, lowV, lowC, Av.get, go_sem, Nat.reduceAdd, Nat.reduceMul, Nat.reduceSub, Nat.reduceBEq, Nat.reduceLT, Nat.reduceLeDiff, reduceIte, reduceCtorEq, Int.reduceToNat, Int.reduceLE, Int.reduceLT, Int.reduceNe, Int.reduceMul, Int.reduceAdd, Int.reduceSub, Int.reduceDiv, Int.reduceMod, Int.reduceEq, Int.reduceGE, Int.reduceGT, Int.reduceNeg, Int.reduceBEq, Int.reduceBNe, Nat.reduceEqDiff]
        simp
    · have di : decide ((i : Int) < (xs.length : Int)) = false := by simp; omega
      have hi : i = xs.length := by omega
      subst hi
      rw [List.take_length]
      refine goF (N := 28) Tryz.ntmps41 300 ?_
      simp only [go_sem, Nat.reduceAdd, Nat.reduceMul, Nat.reduceSub, Nat.reduceBEq, Nat.reduceLT, Nat.reduceLeDiff, reduceIte, reduceCtorEq, Int.reduceToNat, Int.reduceLE, Int.reduceLT, Int.reduceNe, Int.reduceMul, Int.reduceAdd, Int.reduceSub, Int.reduceDiv, Int.reduceMod, Int.reduceEq, Int.reduceGE, Int.reduceGT, Int.reduceNeg, Int.reduceBEq, Int.reduceBNe, Nat.reduceEqDiff, di, tabC_o, tabC_so, tabC_b3, tabC_sb3]
      exact aretc [.cell 2 37] rfl [_] ⟨by simp only [go_sem, Nat.reduceAdd, Nat.reduceMul, Nat.reduceSub, Nat.reduceBEq, Nat.reduceLT, Nat.reduceLeDiff, reduceIte, reduceCtorEq, Int.reduceToNat, Int.reduceLE, Int.reduceLT, Int.reduceNe, Int.reduceMul, Int.reduceAdd, Int.reduceSub, Int.reduceDiv, Int.reduceMod, Int.reduceEq, Int.reduceGE, Int.reduceGT, Int.reduceNeg, Int.reduceBEq, Int.reduceBNe, Nat.reduceEqDiff, sideIs, tabC_b3], trivial⟩ ⟨rfl, rfl⟩
end Go.Proofs.YtpjbbpilgfihbaaGreatDoor
